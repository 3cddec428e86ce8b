/- Slices of slices of one's own; results that are known a little less. -/
import Derived.Test.YtdakclpneghkmaaGreatDoorL13
set_option linter.unusedSimpArgs false
set_option linter.unusedVariables false
namespace Go.AI
open Go.RowKit

/-- a list of one's own at an id, that may be empty -/
def oA (id sz n : Nat) : AVal := if n = 0 then .esl else .osl id sz 0 n n
def oT (sz : Nat) (rows : List Row) : Option (Nat × List Row) := if rows = [] then none else some (sz, rows)

theorem thOf_range {n0 m id : Nat} (h : id < n0 + m) : thOf n0 (List.range' n0 m) id = id := by
  unfold thOf
  split
  · rfl
  · rename_i h2
    rw [List.getElem?_range' (by omega)]
    simp; omega
mutual
theorem ren_id {n0 m : Nat} : ∀ a : AVal, lowA (n0 + m) a = true → ren n0 (List.range' n0 m) a = a
  | .ptr id _ _ _, h => by simp only [lowA, decide_eq_true_eq] at h; simp only [ren, thOf_range h]
  | .osl id _ _ _ _, h => by simp only [lowA, decide_eq_true_eq] at h; simp only [ren, thOf_range h]
  | .xsl id _ _ _ _, h => by simp only [lowA, decide_eq_true_eq] at h; simp only [ren, thOf_range h]
  | .agg cs, h => by simp only [lowA] at h; simp only [ren, renC_id cs h]
  | .tup cs, h => by simp only [lowA] at h; simp only [ren, renC_id cs h]
  | .fn _ cs, h => by simp only [lowA] at h; simp only [ren, renC_id cs h]
  | .when _ a, h => by simp only [lowA] at h; simp only [ren, ren_id a h]
  | .ifc _ a, h => by simp only [lowA] at h; simp only [ren, ren_id a h]
  | .meth _ _, _ => rfl
  | .junk, _ => rfl
  | .anyb, _ => rfl
  | .v _, _ => rfl
  | .fptr _ _, _ => rfl
  | .fsl _ _ _, _ => rfl
  | .esl, _ => rfl
theorem renC_id {n0 m : Nat} : ∀ l : List AVal, lowC (n0 + m) l = true → renC n0 (List.range' n0 m) l = l
  | [], _ => rfl
  | a :: r, h => by
    simp only [lowC, Bool.and_eq_true] at h
    simp only [renC, ren_id a h.1, renC_id r h.2]
end
theorem heapT_of {n0 n : Nat} {th : List Nat} {H : Heap} : ∀ {H' : Heap} {k : Nat}, (∀ (id : Nat) o, H'[id]? = some (some o) → H[thOf n0 th (k + id)]? = some (some (o.1, o.2.map (List.map (ren n0 th)))) ∧ (o.2.all fun row => row.all (lowA n)) = true) → heapT n0 th n H k H'
  | [], k, _ => trivial
  | none :: r, k, h => by
    simp only [heapT]
    exact heapT_of fun id o ho => by have := h (id + 1) o (by simpa using ho); rwa [show k + (id + 1) = k + 1 + id by omega] at this
  | some o :: r, k, h => by
    simp only [heapT]
    have h0 := h 0 o (by simp)
    refine ⟨by simpa using h0.1, h0.2, heapT_of fun id o ho => ?_⟩
    have := h (id + 1) o (by simpa using ho)
    rwa [show k + (id + 1) = k + 1 + id by omega] at this
theorem weak_T {s' s : Env × Heap} (h : Weaker 0 s' s) : ∃ th, WeakT 0 th s' s := by
  obtain ⟨h0, h1, h2⟩ := h
  refine ⟨List.range' 0 s'.2.length, ⟨Nat.zero_le _, Nat.zero_le _⟩, ⟨List.nodup_range', by simp, fun x hx => Nat.zero_le _⟩, fun p hp => ?_, heapT_of fun id o ho => ?_⟩
  · obtain ⟨a, b⟩ := h1 p hp
    refine ⟨?_, b⟩
    rw [a, ren_id p.2 (by rw [Nat.zero_add]; exact b)]
  · obtain ⟨a, b⟩ := heapW_get h2 id o ho
    have hid : id < s'.2.length := (List.getElem?_eq_some_iff.1 ho).1
    refine ⟨?_, b⟩
    rw [thOf_range (by omega), Nat.zero_add, a]
    have hrow : o.2.map (List.map (ren 0 (List.range' 0 s'.2.length))) = o.2 := by
      have hb := List.all_eq_true.1 b
      conv => rhs; rw [← List.map_id o.2]
      apply List.map_congr_left
      intro r hr
      have hb2 := List.all_eq_true.1 (hb r hr)
      show List.map (ren 0 (List.range' 0 s'.2.length)) r = r
      conv => rhs; rw [← List.map_id r]
      apply List.map_congr_left
      intro x hx
      exact ren_id x (by rw [Nat.zero_add]; exact hb2 x hx)
    rw [hrow]

section
variable {P : Program} {C : Orc} {nt : Nat} {ρ : Env} {H : Heap}
/-- a loop from 0 to n: the first state under other names -/
theorem loop_forW {K : Nat} {c : Code} {Q : Post} {α : Type} (n : Nat) (st : Nat → α → Env × Heap) (inv : Nat → α → Prop) (a0 : α) (th : List Nat) (hb : ∀ k a, k < n → inv k a → k < 4294967296) (hi : inv 0 a0) (h0 : WeakT 0 th (st 0 a0) (ρ, H))
    (step : ∀ k a, k < n → inv k a → IntKind.i64.wrap ((k : Int) + 1) = (k : Int) + 1 → wpX P C nt (LoopK P C nt 0 K) c (thenA (NextF 0 st inv (k + 1)) Q) (st k a).1 (st k a).2)
    (last : ∀ a, inv n a → wpX P C nt (LoopK P C nt 0 K) c (thenA (fun _ _ => False) Q) (st n a).1 (st n a).2) : LoopK P C nt 0 (K + 1) c Q ρ H := by
  refine loop_ren (σ := {p : Nat × α // p.1 ≤ n ∧ inv p.1 p.2}) (fun p => st p.val.1 p.val.2) (fun p => n - p.val.1) ⟨(0, a0), Nat.zero_le _, hi⟩ th h0 ?_
  rintro ⟨⟨k, a⟩, hk, hka⟩
  simp only at hk hka ⊢
  rcases Nat.lt_or_ge k n with hlt | hge
  · refine wpX_mono (LoopK_mono K) c _ _ _ _ (thenA_mono ?_ fun _ _ _ q => q) (step k a hlt hka (by have := hb k a hlt hka; exact w64 (by omega) (by omega)))
    rintro ρ H ⟨a', h1, h2⟩
    exact ⟨⟨(k + 1, a'), hlt, h1⟩, by simp only; omega, weak_T h2⟩
  · have : k = n := by omega
    subst this
    exact wpX_mono (LoopK_mono K) c _ _ _ _ (thenA_mono (fun _ _ q => q.elim) fun _ _ _ q => q) (last a hka)
/-- the same, of states -/
theorem loop_renW {k : Nat} {c : Code} {Q : Post} {σ : Type} (st : σ → Env × Heap) (μ : σ → Nat) (s0 : σ) (th : List Nat) (h0 : WeakT 0 th (st s0) (ρ, H))
    (hr : ∀ s, wpX P C nt (LoopK P C nt 0 k) c (thenA (Again 0 st μ (μ s)) Q) (st s).1 (st s).2) : LoopK P C nt 0 (k + 1) c Q ρ H := by
  refine loop_ren st μ s0 th h0 fun s => wpX_mono (LoopK_mono k) c _ _ _ _ (thenA_mono ?_ fun _ _ _ q => q) (hr s)
  rintro ρ H ⟨s', h1, h2⟩
  exact ⟨s', h1, weak_T h2⟩
end

/-- known a little less -/
inductive Sof : AVal → AVal → Prop
  | refl (a : AVal) : Sof a a
  | esl {o : Bool} {sz : Nat} : Sof (.fsl o sz []) .esl
  | nil {o : Bool} {sz : Nat} : Sof (.fsl o sz []) (.v (.slice none 0 0))
  | agg {rs xs : List AVal} (hl : rs.length = xs.length) (h : ∀ (j : Nat) (r x : AVal), rs[j]? = some r → xs[j]? = some x → Sof r x) : Sof (.agg rs) (.agg xs)
  | tup {rs xs : List AVal} (hl : rs.length = xs.length) (h : ∀ (j : Nat) (r x : AVal), rs[j]? = some r → xs[j]? = some x → Sof r x) : Sof (.tup rs) (.tup xs)
  | fsl {o : Bool} {sz : Nat} {rs xs : List Row} (hl : rs.length = xs.length) (hs : ∀ r ∈ rs, r.length = sz) (h : ∀ (i : Nat) (r x : Row), rs[i]? = some r → xs[i]? = some x → ∀ (j : Nat) (a b : AVal), r[j]? = some a → x[j]? = some b → Sof a b) : Sof (.fsl o sz rs) (.fsl o sz xs)
theorem Sof.known {r x : AVal} (h : Sof r x) : ∀ {β : Nat → Nat} {ok : Bool → Nat → Prop} {w : World} {n : Nat} {v : Value}, R β ok w n x v → R β ok w n r v := by
  induction h with
  | refl => intro β ok w n v h; exact h
  | esl => intro β ok w n v h; cases h; exact .fsl0
  | nil => intro β ok w n v h; rw [h.v_inv]; exact .fsl0
  | @agg rs xs hl h ih =>
    intro β ok w n v hx
    cases hx with
    | agg hl2 hr =>
      refine .agg (hl.trans hl2) fun j a ha => ?_
      have hj : j < xs.length := by have := (List.getElem?_eq_some_iff.1 ha).1; omega
      exact ih j a xs[j] ha (List.getElem?_eq_getElem hj) (hr j _ (List.getElem?_eq_getElem hj))
  | @tup rs xs hl h ih =>
    intro β ok w n v hx
    cases hx with
    | tup hl2 hr =>
      refine .tup (hl.trans hl2) fun j a ha => ?_
      have hj : j < xs.length := by have := (List.getElem?_eq_some_iff.1 ha).1; omega
      exact ih j a xs[j] ha (List.getElem?_eq_getElem hj) (hr j _ (List.getElem?_eq_getElem hj))
  | @fsl o sz rs xs hl hs h ih =>
    intro β ok w n v hx
    cases hx with
    | @fsl _ _ _ _ b off cap x' hl2 hs2 hb hc hr =>
      rw [← hl]
      refine .fsl x' (by omega) hs (fun ⟨r, hr, hne⟩ => hb (by
        have hz : 0 < sz := by rw [← hs r hr]; exact List.length_pos_iff.2 hne
        have h00 : 0 < xs.length := by have := List.length_pos_of_mem hr; omega
        exact ⟨xs[0], List.getElem_mem h00, List.length_pos_iff.1 (by rw [hs2 _ (List.getElem_mem h00)]; exact hz)⟩)) (fun i j hi hj => hc i j (by omega) hj) fun i r hi j a ha => ?_
      have hil : i < xs.length := by have := (List.getElem?_eq_some_iff.1 hi).1; omega
      have hjl : j < xs[i].length := by
        rw [hs2 _ (List.getElem_mem hil)]
        have h1 := (List.getElem?_eq_some_iff.1 ha).1
        rwa [hs r (List.mem_of_getElem? hi)] at h1
      exact ih i r xs[i] hi (List.getElem?_eq_getElem hil) j a xs[i][j] ha (List.getElem?_eq_getElem hjl) (hr i _ (List.getElem?_eq_getElem hil) j _ (List.getElem?_eq_getElem hjl))
    | fsl0 =>
      have : rs = [] := List.length_eq_zero_iff.1 hl
      subst this
      exact .fsl0
theorem Sof.agg2 {a b c d : AVal} (h1 : Sof a c) (h2 : Sof b d) : Sof (.agg [a, b]) (.agg [c, d]) :=
  .agg rfl fun j r x hr hx => by
    match j, hr, hx with
    | 0, hr, hx => simp at hr hx; subst hr; subst hx; exact h1
    | 1, hr, hx => simp at hr hx; subst hr; subst hx; exact h2
    | j + 2, hr, hx => simp at hr
theorem Sof.tup2 {a b c d : AVal} (h1 : Sof a c) (h2 : Sof b d) : Sof (.tup [a, b]) (.tup [c, d]) :=
  .tup rfl fun j r x hr hx => by
    match j, hr, hx with
    | 0, hr, hx => simp at hr hx; subst hr; subst hx; exact h1
    | 1, hr, hx => simp at hr hx; subst hr; subst hx; exact h2
    | j + 2, hr, hx => simp at hr
theorem Sof.tup3 {a b c d e f : AVal} (h1 : Sof a d) (h2 : Sof b e) (h3 : Sof c f) : Sof (.tup [a, b, c]) (.tup [d, e, f]) :=
  .tup rfl fun j r x hr hx => by
    match j, hr, hx with
    | 0, hr, hx => simp at hr hx; subst hr; subst hx; exact h1
    | 1, hr, hx => simp at hr hx; subst hr; subst hx; exact h2
    | 2, hr, hx => simp at hr hx; subst hr; subst hx; exact h3
    | j + 3, hr, hx => simp at hr

/-- what an answer shows; kept closed -/
def ShowsA (H : Heap) (d : Nat) (r x : AVal) : Prop := Sof r (view H d x) ∧ hot (view H d x) = true
theorem showsV {H : Heap} {d : Nat} (x : Value) : ShowsA H d (.v x) (.v x) := by
  unfold ShowsA
  cases d <;> simp only [view, hot, and_true] <;> exact .refl _
theorem showsG2 {H : Heap} {d : Nat} {a b a' b' : AVal} (h1 : ShowsA H d a a') (h2 : ShowsA H d b b') : ShowsA H (d + 1) (.agg [a, b]) (.agg [a', b']) := by
  unfold ShowsA
  simp only [view, List.map_cons, List.map_nil, hot, hotC, Bool.and_true, Bool.and_eq_true]
  exact ⟨.agg2 h1.1 h2.1, h1.2, h2.2⟩
theorem showsT2 {H : Heap} {d : Nat} {a b a' b' : AVal} (h1 : ShowsA H d a a') (h2 : ShowsA H d b b') : ShowsA H (d + 1) (.tup [a, b]) (.tup [a', b']) := by
  unfold ShowsA
  simp only [view, List.map_cons, List.map_nil, hot, hotC, Bool.and_true, Bool.and_eq_true]
  exact ⟨.tup2 h1.1 h2.1, h1.2, h2.2⟩
theorem showsT3 {H : Heap} {d : Nat} {a b c a' b' c' : AVal} (h1 : ShowsA H d a a') (h2 : ShowsA H d b b') (h3 : ShowsA H d c c') : ShowsA H (d + 1) (.tup [a, b, c]) (.tup [a', b', c']) := by
  unfold ShowsA
  simp only [view, List.map_cons, List.map_nil, hot, hotC, Bool.and_true, Bool.and_eq_true]
  exact ⟨.tup3 h1.1 h2.1 h3.1, h1.2, h2.2, h3.2⟩

section
variable {P : Program} {f : FuncId} {fn : Func} {c : Code}
/-- a function that makes nothing but new memory, its result known a little less -/
theorem pureS {m : Row → Option AVal} (hf : P.funcs[f]? = some fn) (hb : fn.body = some c) (h : ∀ args r, m args = some r → ∃ args', Canon args args' ∧ args'.length ≤ fn.ntmps ∧ AWp P fn.ntmps 0 c (retA P fn fun x H => ShowsA H depthV r x) (envOf 0 args') []) : PureOk P f m := by
  intro args r hr w vals hargs
  obtain ⟨args', hc, h1, h2⟩ := h args r hr
  refine body_calls hf hb h1 h2 ⟨fn.ntmps, 0, β0, (· < w.heap.size), w⟩ rfl rfl (HSim.start w) (Ext.refl _ _ _ _) (hc.args hargs) _ ?_
  rintro x v β' fz' H' w' ⟨hx1, hx2⟩ hs he hR
  have hv := view_R hs depthV x v hR
  exact ⟨v, rfl, hs.below, hx1.known (hot_R hx2 hv)⟩
def BodyS (P : Program) (fn : Func) (c : Code) (args : Row) (r : AVal) : Prop :=
  args.length ≤ fn.ntmps ∧ AWp P fn.ntmps 0 c (retA P fn fun x H => ShowsA H depthV r x) (envOf 0 args) []
theorem bodyS_of {C : Orc} {args : Row} {r : AVal} (hC : OrcOk P C) (hm : P.follows .mixedOrders = true) (hrf : codeRF C c = true) (hn : args.length ≤ fn.ntmps)
    (h : ∀ C' : Orc, C'.pure = C.pure → C'.inl = C.inl → C'.inline = C.inline → C'.dyn = C.dyn → C'.fp = C.fp → C'.alt = C.alt → C'.rd = C.rd → C'.cl = C.cl → wpA P C' fn.ntmps 0 c (retA P fn fun x H => ShowsA H depthV r x) (envOf 0 args) []) : BodyS P fn c args r :=
  ⟨hn, wpA_sound hC hm _ _ _ _ hrf (h C rfl rfl rfl rfl rfl rfl rfl rfl)⟩
variable {α₁ α₂ α₃ α₄ : Type}
theorem pureS1 {c1 : Cod α₁} (hf : P.funcs[f]? = some fn) (hb : fn.body = some c) {g : α₁ → Option AVal} (h : ∀ e1 r, g e1 = some r → BodyS P fn c [c1.enc e1] r) : PureOk P f (argM c1 fun e1 => finM (g e1)) := by
  refine pureS hf hb fun args r hr => ?_
  obtain ⟨x1, e1, r1, rfl, h1, hr⟩ := argM_some hr
  obtain ⟨rfl, hr⟩ := finM_some hr
  exact ⟨_, .cons c1 h1 .nil, h e1 r hr⟩
theorem pureS2 {c1 : Cod α₁} {c2 : Cod α₂} (hf : P.funcs[f]? = some fn) (hb : fn.body = some c) {g : α₁ → α₂ → Option AVal} (h : ∀ e1 e2 r, g e1 e2 = some r → BodyS P fn c [c1.enc e1, c2.enc e2] r) : PureOk P f (argM c1 fun e1 => argM c2 fun e2 => finM (g e1 e2)) := by
  refine pureS hf hb fun args r hr => ?_
  obtain ⟨x1, e1, r1, rfl, h1, hr⟩ := argM_some hr
  obtain ⟨x2, e2, r2, rfl, h2, hr⟩ := argM_some hr
  obtain ⟨rfl, hr⟩ := finM_some hr
  exact ⟨_, .cons c1 h1 (.cons c2 h2 .nil), h e1 e2 r hr⟩
theorem pureS3 {c1 : Cod α₁} {c2 : Cod α₂} {c3 : Cod α₃} (hf : P.funcs[f]? = some fn) (hb : fn.body = some c) {g : α₁ → α₂ → α₃ → Option AVal} (h : ∀ e1 e2 e3 r, g e1 e2 e3 = some r → BodyS P fn c [c1.enc e1, c2.enc e2, c3.enc e3] r) : PureOk P f (argM c1 fun e1 => argM c2 fun e2 => argM c3 fun e3 => finM (g e1 e2 e3)) := by
  refine pureS hf hb fun args r hr => ?_
  obtain ⟨x1, e1, r1, rfl, h1, hr⟩ := argM_some hr
  obtain ⟨x2, e2, r2, rfl, h2, hr⟩ := argM_some hr
  obtain ⟨x3, e3, r3, rfl, h3, hr⟩ := argM_some hr
  obtain ⟨rfl, hr⟩ := finM_some hr
  exact ⟨_, .cons c1 h1 (.cons c2 h2 (.cons c3 h3 .nil)), h e1 e2 e3 r hr⟩
theorem pureS4 {c1 : Cod α₁} {c2 : Cod α₂} {c3 : Cod α₃} {c4 : Cod α₄} (hf : P.funcs[f]? = some fn) (hb : fn.body = some c) {g : α₁ → α₂ → α₃ → α₄ → Option AVal} (h : ∀ e1 e2 e3 e4 r, g e1 e2 e3 e4 = some r → BodyS P fn c [c1.enc e1, c2.enc e2, c3.enc e3, c4.enc e4] r) : PureOk P f (argM c1 fun e1 => argM c2 fun e2 => argM c3 fun e3 => argM c4 fun e4 => finM (g e1 e2 e3 e4)) := by
  refine pureS hf hb fun args r hr => ?_
  obtain ⟨x1, e1, r1, rfl, h1, hr⟩ := argM_some hr
  obtain ⟨x2, e2, r2, rfl, h2, hr⟩ := argM_some hr
  obtain ⟨x3, e3, r3, rfl, h3, hr⟩ := argM_some hr
  obtain ⟨x4, e4, r4, rfl, h4, hr⟩ := argM_some hr
  obtain ⟨rfl, hr⟩ := finM_some hr
  exact ⟨_, .cons c1 h1 (.cons c2 h2 (.cons c3 h3 (.cons c4 h4 .nil))), h e1 e2 e3 e4 r hr⟩
/-- a function of one's own objects that is handed none; no other names -/
theorem bodyI_w {code : Code} {C : Orc} {args : Row} {H' : Heap} {r : AVal} (hC : OrcOk P C) (hm : P.follows .mixedOrders = true) (hrf : codeRF C code = true) (hn : args.length ≤ fn.ntmps)
    (h : ∀ C' : Orc, C'.pure = C.pure → C'.inl = C.inl → C'.inline = C.inline → C'.dyn = C.dyn → C'.fp = C.fp → C'.alt = C.alt → C'.rd = C.rd → C'.cl = C.cl → wpA P C' fn.ntmps 0 code (retA P fn fun x H2 => Weaker 0 ([(0, r)], H') ([(0, x)], H2)) (envOf 0 args) []) : BodyI P fn code args [] r H' :=
  ⟨hn, (wpA_sound hC hm _ _ _ _ hrf (h C rfl rfl rfl rfl rfl rfl rfl rfl)).mono fun e ρ H q => by
    cases e with
    | normal =>
      simp only [retA] at q ⊢
      split at q
      · exact weak_T q
      · exact q.elim
    | ret =>
      simp only [retA] at q ⊢
      split at q
      · exact weak_T q
      · exact q.elim
    | _ => exact q.elim⟩
end

-- slices of slices: as they come, some of them copied; all copied
section
variable {α : Type} {sz c n d : Nat} {g : α → Row} {L : List (List α)}
def slR (sz : Nat) (g : α → Row) (o : Bool) (l : List α) : Row := [.fsl o sz (l.map g)]
def mixR (sz c k : Nat) (g : α → Row) (L : List (List α)) : List Row := L.mapIdx fun i l => if i < k then [oA (i + c) sz l.length] else slR sz g false l
def ownR (sz c : Nat) (L : List (List α)) : List Row := L.mapIdx fun i l => [oA (i + c) sz l.length]
def ownH (sz : Nat) (g : α → Row) (L : List (List α)) : Heap := L.map fun l => oT sz (l.map g)
theorem mixR_len {k : Nat} : (mixR sz c k g L).length = L.length := by simp [mixR]
theorem ownR_len : (ownR sz c L).length = L.length := by simp [ownR]
theorem ownH_len : (ownH sz g L).length = L.length := by simp [ownH]
theorem mixR_get {k i : Nat} (hi : i < L.length) : (mixR sz c k g L)[i]? = some (if i < k then [oA (i + c) sz L[i].length] else slR sz g false L[i]) := by
  simp [mixR, List.getElem?_mapIdx, hi]
theorem ownR_get {i : Nat} (hi : i < L.length) : (ownR sz c L)[i]? = some [oA (i + c) sz L[i].length] := by
  simp [ownR, List.getElem?_mapIdx, hi]
theorem ownH_get {i : Nat} (hi : i < L.length) : (ownH sz g L)[i]? = some (oT sz (L[i].map g)) := by
  simp [ownH, hi]
theorem mixR_zero : mixR sz c 0 g L = L.map (slR sz g false) := by
  apply List.ext_getElem?
  intro i
  simp [mixR, List.getElem?_mapIdx]
theorem mixR_all : mixR sz c L.length g L = ownR sz c L := by
  apply List.ext_getElem?
  intro i
  by_cases hi : i < L.length
  · rw [mixR_get hi, ownR_get hi, if_pos hi]
  · rw [List.getElem?_eq_none (by rw [mixR_len]; omega), List.getElem?_eq_none (by rw [ownR_len]; omega)]
theorem mixR_set {k : Nat} (hk : k < L.length) : (mixR sz c k g L).set k [oA (k + c) sz L[k].length] = mixR sz c (k + 1) g L := by
  apply List.ext_getElem?
  intro i
  by_cases hi : i < L.length
  · by_cases hik : i = k
    · subst hik
      rw [List.getElem?_set_self (by rw [mixR_len]; exact hi), mixR_get hi, if_pos (by omega)]
    · rw [List.getElem?_set_ne (fun e => hik e.symm), mixR_get hi, mixR_get hi]
      have : i < k + 1 ↔ i < k := by omega
      simp only [this]
  · rw [List.getElem?_eq_none (by rw [List.length_set, mixR_len]; omega), List.getElem?_eq_none (by rw [mixR_len]; omega)]
theorem ownH_take {k : Nat} (hk : k < L.length) : ownH sz g (L.take (k + 1)) = ownH sz g (L.take k) ++ [oT sz (L[k].map g)] := by
  unfold ownH
  rw [List.take_succ_eq_append_getElem hk, List.map_append]; rfl
theorem ownR_set {i : Nat} {l : List α} (hi : i < L.length) : (ownR sz c L).set i [oA (i + c) sz l.length] = ownR sz c (L.set i l) := by
  apply List.ext_getElem?
  intro j
  by_cases hj : j < L.length
  · by_cases hij : j = i
    · subst hij
      rw [List.getElem?_set_self (by rw [ownR_len]; exact hj), ownR_get (by simpa using hj)]; simp
    · rw [List.getElem?_set_ne (fun e => hij e.symm), ownR_get hj, ownR_get (by simpa using hj)]
      simp [List.getElem_set_ne (fun e => hij e.symm)]
  · rw [List.getElem?_eq_none (by rw [List.length_set, ownR_len]; omega), List.getElem?_eq_none (by rw [ownR_len]; simp; omega)]
theorem ownH_set {i : Nat} {l : List α} : (ownH sz g L).set i (oT sz (l.map g)) = ownH sz g (L.set i l) := by
  simp [ownH, List.map_set]
theorem oA_low {id k : Nat} (h : id < n) : lowA n (oA id sz k) = true := by
  unfold oA; split <;> simp [lowA, h]
theorem ownR_low (h : L.length + c ≤ n) : ((ownR sz c L).all fun row => row.all (lowA n)) = true := by
  rw [List.all_eq_true]
  intro r hr
  obtain ⟨i, hi, rfl⟩ := List.getElem_of_mem hr
  rw [ownR_len] at hi
  have := ownR_get (sz := sz) (c := c) hi
  rw [List.getElem?_eq_getElem (by rw [ownR_len]; exact hi)] at this
  simp only [Option.some.injEq] at this
  rw [this]
  simp [oA_low (sz := sz) (n := n) (show i + c < n by omega)]
theorem mixR_low {k : Nat} (h : L.length + c ≤ n ∨ k + c ≤ n) : ((mixR sz c k g L).all fun row => row.all (lowA n)) = true := by
  rw [List.all_eq_true]
  intro r hr
  obtain ⟨i, hi, rfl⟩ := List.getElem_of_mem hr
  rw [mixR_len] at hi
  have := mixR_get (sz := sz) (c := c) (k := k) (g := g) hi
  rw [List.getElem?_eq_getElem (by rw [mixR_len]; exact hi)] at this
  simp only [Option.some.injEq] at this
  rw [this]
  split
  · simp [oA_low (sz := sz) (n := n) (show i + c < n by omega)]
  · simp [slR, lowA]
theorem heapW_app {X Y Z : Heap} (hx : ∀ o, some o ∈ X → (o.2.all fun row => row.all (lowA n)) = true) (h : heapW n Y Z) : heapW n (X ++ Y) (X ++ Z) := by
  induction X with
  | nil => exact h
  | cons a X ih =>
    cases a with
    | none => simp only [List.cons_append, heapW]; exact ih fun o ho => hx o (by simp [ho])
    | some o => simp only [List.cons_append, heapW]; exact ⟨trivial, hx o (by simp), ih fun o ho => hx o (by simp [ho])⟩
theorem ownH_low (hg : ∀ e, (g e).all (lowA n) = true) : ∀ o, some o ∈ ownH sz g L → (o.2.all fun row => row.all (lowA n)) = true := by
  intro o ho
  simp only [ownH, List.mem_map] at ho
  obtain ⟨l, _, hl⟩ := ho
  unfold oT at hl
  split at hl
  · cases hl
  · simp at hl; subst hl
    simp [hg]
/-- the next list, copied -/
theorem heapW_own {k : Nat} (hk : k < L.length) (hg : ∀ e, (g e).all (lowA n) = true) : heapW n (ownH sz g (L.take (k + 1))) (ownH sz g (L.take k) ++ (if L[k] = [] then [] else [some (sz, L[k].map g)])) := by
  rw [ownH_take hk]
  refine heapW_app (ownH_low hg) ?_
  unfold oT
  by_cases h : L[k] = []
  · simp [h, heapW]
  · simp only [List.map_eq_nil_iff, h, if_false]
    simp [heapW, hg]
theorem tau_oA {m id k : Nat} : tau [] m (oA id sz k) = oA (m + id) sz k := by
  unfold oA; split <;> simp [tau, tauI]
theorem tau_ownR {m : Nat} : (ownR sz c L).map (List.map (tau [] m)) = ownR sz (m + c) L := by
  apply List.ext_getElem?
  intro i
  by_cases hi : i < L.length
  · rw [List.getElem?_map, ownR_get hi, ownR_get hi]
    simp only [Option.map_some, List.map_cons, List.map_nil, tau_oA]
    rw [show m + (i + c) = i + (m + c) by omega]
  · rw [List.getElem?_eq_none (by rw [List.length_map, ownR_len]; omega), List.getElem?_eq_none (by rw [ownR_len]; omega)]
theorem tauO_oT {m : Nat} {l : List α} (hg : ∀ e, List.map (tau [] m) (g e) = g e) : tauO [] m (oT sz (l.map g)) = oT sz (l.map g) := by
  unfold oT
  split
  · rfl
  · simp only [tauO, List.map_map]
    have : List.map (tau [] m) ∘ g = g := funext hg
    rw [this]
theorem tauO_ownH {m : Nat} (hg : ∀ e, List.map (tau [] m) (g e) = g e) : (ownH sz g L).map (tauO [] m) = ownH sz g L := by
  unfold ownH
  rw [List.map_map]
  apply List.map_congr_left
  intro l _
  exact tauO_oT hg
theorem bare_oA {id k : Nat} : bareA (oA id sz k) = true := by unfold oA; split <;> rfl
theorem bare_ownR : ((ownR sz c L).all fun row => row.all bareA) = true := by
  rw [List.all_eq_true]
  intro r hr
  obtain ⟨i, hi, rfl⟩ := List.getElem_of_mem hr
  rw [ownR_len] at hi
  have := ownR_get (sz := sz) (c := c) hi
  rw [List.getElem?_eq_getElem (by rw [ownR_len]; exact hi)] at this
  simp only [Option.some.injEq] at this
  rw [this]
  simp [bare_oA]
theorem bareH_app {X Y : Heap} : bareH (X ++ Y) = (bareH X && bareH Y) := by
  induction X with
  | nil => simp [bareH]
  | cons a X ih => cases a <;> simp [bareH, ih, Bool.and_assoc]
theorem bareH_oT {l : List α} (hg : ∀ e, (g e).all bareA = true) {r : Heap} : bareH (oT sz (l.map g) :: r) = bareH r := by
  unfold oT
  split
  · rfl
  · simp [bareH, hg]
theorem bareH_ownH (hg : ∀ e, (g e).all bareA = true) : bareH (ownH sz g L) = true := by
  unfold ownH
  induction L with
  | nil => rfl
  | cons l L ih => rw [List.map_cons, bareH_oT hg]; exact ih
/-- what a list of one's own shows -/
theorem view_oA {H : Heap} {id : Nat} {l : List α} (ho : l ≠ [] → obj H id = some (sz, l.map g)) (hg : ∀ e, List.map (view H d) (g e) = g e) : Sof (.fsl true sz (l.map g)) (view H (d + 1) (oA id sz l.length)) := by
  by_cases h : l = []
  · subst h; simp only [oA, List.length_nil, if_true, view]; exact .esl
  · have h0 : ¬ l.length = 0 := fun e => h (List.length_eq_zero_iff.1 e)
    have e : view H (d + 1) (oA id sz l.length) = .fsl true sz (l.map g) := by
      have ht : ((l.map g).drop 0).take l.length = l.map g := List.take_of_length_le (by simp)
      have hc : List.map (view H d) ∘ g = g := funext hg
      simp only [oA, h0, if_false, view, ho h, List.length_map, Nat.zero_add, Nat.le_refl, and_self, if_true, ht, List.map_map, hc]
    rw [e]; exact .refl _
theorem hot_oA {H : Heap} {id : Nat} {l : List α} (ho : l ≠ [] → obj H id = some (sz, l.map g)) (hg : ∀ e, List.map (view H d) (g e) = g e) (hh : ∀ e, hotC (g e) = true) : hot (view H (d + 1) (oA id sz l.length)) = true := by
  by_cases h : l = []
  · subst h; simp [oA, view, hot]
  · have h0 : ¬ l.length = 0 := fun e => h (List.length_eq_zero_iff.1 e)
    have ht : ((l.map g).drop 0).take l.length = l.map g := List.take_of_length_le (by simp)
    have hc : List.map (view H d) ∘ g = g := funext hg
    simp only [oA, h0, if_false, view, ho h, List.length_map, Nat.zero_add, Nat.le_refl, and_self, if_true, ht, List.map_map, hc, hot, Bool.true_or, Bool.true_and, hotR_all, ← hotC_all, List.all_eq_true]
    intro r hr
    obtain ⟨e, _, rfl⟩ := List.mem_map.1 hr
    exact hh e
theorem view_ownR {H : Heap} {id : Nat} (hob : L ≠ [] → obj H id = some (1, ownR sz c L)) (ho : ∀ (i : Nat) (hi : i < L.length), L[i] ≠ [] → obj H (i + c) = some (sz, L[i].map g)) (hg : ∀ e, List.map (view H d) (g e) = g e) :
    Sof (.fsl true 1 (L.map (slR sz g true))) (view H (d + 2) (oA id 1 L.length)) := by
  by_cases h : L = []
  · subst h; simp only [oA, List.length_nil, if_true, view]; exact .esl
  · have h0 : ¬ L.length = 0 := fun e => h (List.length_eq_zero_iff.1 e)
    have hl : (ownR sz c L).length = L.length := ownR_len
    have e : view H (d + 2) (oA id 1 L.length) = .fsl true 1 ((ownR sz c L).map fun r => r.map (view H (d + 1))) := by
      have ht : ((ownR sz c L).drop 0).take L.length = ownR sz c L := List.take_of_length_le (by simp [hl])
      simp only [oA, h0, if_false, view, hob h, hl, Nat.zero_add, Nat.le_refl, and_self, if_true, ht]
    rw [e]
    refine .fsl (by simp [ownR_len]) (by simp [slR]) fun i r x hr hx j a b ha hb => ?_
    have hi : i < L.length := by have := (List.getElem?_eq_some_iff.1 hr).1; simpa using this
    simp only [List.getElem?_map, List.getElem?_eq_getElem hi, Option.map_some, Option.some.injEq] at hr
    simp only [List.getElem?_map, ownR_get hi, Option.map_some, Option.some.injEq] at hx
    subst hr; subst hx
    cases j with
    | zero =>
      simp [slR] at ha hb
      subst ha; subst hb
      exact view_oA (ho i hi) hg
    | succ j => simp [slR] at ha
theorem hot_ownR {H : Heap} {id : Nat} (hob : L ≠ [] → obj H id = some (1, ownR sz c L)) (ho : ∀ (i : Nat) (hi : i < L.length), L[i] ≠ [] → obj H (i + c) = some (sz, L[i].map g)) (hg : ∀ e, List.map (view H d) (g e) = g e) (hh : ∀ e, hotC (g e) = true) :
    hot (view H (d + 2) (oA id 1 L.length)) = true := by
  by_cases h : L = []
  · subst h; simp [oA, view, hot]
  · have h0 : ¬ L.length = 0 := fun e => h (List.length_eq_zero_iff.1 e)
    have hl : (ownR sz c L).length = L.length := ownR_len
    have ht : ((ownR sz c L).drop 0).take L.length = ownR sz c L := List.take_of_length_le (by simp [hl])
    simp only [oA, h0, if_false, view, hob h, hl, Nat.zero_add, Nat.le_refl, and_self, if_true, ht, hot, Bool.true_or, Bool.true_and, hotR_all, List.all_eq_true]
    intro r hr x hx
    simp only [List.mem_map] at hr
    obtain ⟨r0, hr0, rfl⟩ := hr
    obtain ⟨i, hi, rfl⟩ := List.getElem_of_mem hr0
    rw [hl] at hi
    have := ownR_get (sz := sz) (c := c) hi
    rw [List.getElem?_eq_getElem (by rw [hl]; exact hi)] at this
    simp only [Option.some.injEq] at this
    rw [this] at hx
    simp at hx
    subst hx
    exact hot_oA (ho i hi) hg hh
/-- a list of lists, wherever they lie -/
theorem shows_oA {H : Heap} {id : Nat} {l : List α} (ho : l ≠ [] → obj H id = some (sz, l.map g)) (hg : ∀ e, List.map (view H d) (g e) = g e) (hh : ∀ e, hotC (g e) = true) : ShowsA H (d + 1) (.fsl true sz (l.map g)) (oA id sz l.length) :=
  ⟨view_oA ho hg, hot_oA ho hg hh⟩
theorem shows_osl {H : Heap} {id m kc : Nat} {l : List α} (hm : m = l.length) (ho : obj H id = some (sz, l.map g)) (hg : ∀ e, List.map (view H d) (g e) = g e) (hh : ∀ e, hotC (g e) = true) : ShowsA H (d + 1) (.fsl true sz (l.map g)) (.osl id sz 0 m kc) := by
  subst hm
  have e : view H (d + 1) (.osl id sz 0 l.length kc) = .fsl true sz (l.map g) := by
    have ht : ((l.map g).drop 0).take l.length = l.map g := List.take_of_length_le (by simp)
    have hc : List.map (view H d) ∘ g = g := funext hg
    simp only [view, ho, List.length_map, Nat.zero_add, Nat.le_refl, and_self, if_true, ht, List.map_map, hc]
  refine ⟨by rw [e]; exact .refl _, ?_⟩
  rw [e]
  simp only [hot, Bool.true_or, Bool.true_and, hotR_all, ← hotC_all, List.all_eq_true]
  intro r hr
  obtain ⟨e, _, rfl⟩ := List.mem_map.1 hr
  exact hh e
theorem shows_rows {H : Heap} {id m kc : Nat} {rows : List Row} (hm : m = L.length) (ho : obj H id = some (1, rows)) (hl : rows.length = L.length) (hr : ∀ (i : Nat) (hi : i < L.length), ∃ x, rows[i]? = some [x] ∧ ShowsA H (d + 1) (.fsl true sz (L[i].map g)) x) :
    ShowsA H (d + 2) (.fsl true 1 (L.map (slR sz g true))) (.osl id 1 0 m kc) := by
  subst hm
  have ht : (rows.drop 0).take L.length = rows := List.take_of_length_le (by simp [hl])
  have e : view H (d + 2) (.osl id 1 0 L.length kc) = .fsl true 1 (rows.map fun r => r.map (view H (d + 1))) := by
    simp only [view, ho, hl, Nat.zero_add, Nat.le_refl, and_self, if_true, ht]
  refine ⟨?_, ?_⟩
  · rw [e]
    refine .fsl (by simp [hl]) (by simp [slR]) fun i r x hr1 hx j a b ha hb => ?_
    have hi : i < L.length := by have := (List.getElem?_eq_some_iff.1 hr1).1; simpa using this
    obtain ⟨y, hy, hs⟩ := hr i hi
    simp only [List.getElem?_map, List.getElem?_eq_getElem hi, Option.map_some, Option.some.injEq] at hr1
    simp only [List.getElem?_map, hy, Option.map_some, Option.some.injEq] at hx
    subst hr1; subst hx
    cases j with
    | zero =>
      simp [slR] at ha hb
      subst ha; subst hb
      exact hs.1
    | succ j => simp [slR] at ha
  · rw [e]
    simp only [hot, Bool.true_or, Bool.true_and, hotR_all, List.all_eq_true]
    intro r hr2 x hx
    simp only [List.mem_map] at hr2
    obtain ⟨r0, hr0, rfl⟩ := hr2
    obtain ⟨i, hi, rfl⟩ := List.getElem_of_mem hr0
    obtain ⟨y, hy, hs⟩ := hr i (by omega)
    rw [List.getElem?_eq_getElem hi] at hy
    simp only [Option.some.injEq] at hy
    rw [hy] at hx
    simp at hx
    subst hx
    exact hs.2
theorem shows_ownR {H : Heap} {id m kc : Nat} (hm : m = L.length) (hob : obj H id = some (1, ownR sz c L)) (ho : ∀ (i : Nat) (hi : i < L.length), L[i] ≠ [] → obj H (i + c) = some (sz, L[i].map g)) (hg : ∀ e, List.map (view H d) (g e) = g e) (hh : ∀ e, hotC (g e) = true) :
    ShowsA H (d + 2) (.fsl true 1 (L.map (slR sz g true))) (.osl id 1 0 m kc) :=
  shows_rows hm hob ownR_len fun i hi => ⟨_, ownR_get hi, shows_oA (ho i hi) hg hh⟩
/-- what a call is told of it -/
theorem dec_oA {H : Heap} {id : Nat} {cr : RCod α} {l : List α} (ho : l ≠ [] → obj H id = some (cr.sz, l.map cr.enc)) (hg : ∀ e, List.map (view H d) (cr.enc e) = cr.enc e) (hc : ∀ l : List α, coldR (l.map cr.enc) = l.map cr.enc) : slDec cr (cold (view H (d + 1) (oA id cr.sz l.length))) = some l := by
  by_cases h : l = []
  · subst h; simp [oA, view, cold, slDec]
  · have h0 : ¬ l.length = 0 := fun e => h (List.length_eq_zero_iff.1 e)
    have ht : ((l.map cr.enc).drop 0).take l.length = l.map cr.enc := List.take_of_length_le (by simp)
    have hcc : List.map (view H d) ∘ cr.enc = cr.enc := funext hg
    simp only [oA, h0, if_false, view, ho h, List.length_map, Nat.zero_add, Nat.le_refl, and_self, if_true, ht, List.map_map, hcc, cold, hc, slDec]
    exact mapM_dec cr l
theorem dec_rows {H : Heap} {id m kc : Nat} {cr : RCod α} {rows : List Row} (hm : m = L.length) (ho : obj H id = some (1, rows)) (hl : rows.length = L.length) (hr : ∀ (i : Nat) (hi : i < L.length), ∃ x, rows[i]? = some [x] ∧ slDec cr (cold (view H (d + 1) x)) = some L[i]) :
    slDec (rS cr) (cold (view H (d + 2) (.osl id 1 0 m kc))) = some L := by
  subst hm
  have ht : (rows.drop 0).take L.length = rows := List.take_of_length_le (by simp [hl])
  have e : view H (d + 2) (.osl id 1 0 L.length kc) = .fsl true 1 (rows.map fun r => r.map (view H (d + 1))) := by
    simp only [view, ho, hl, Nat.zero_add, Nat.le_refl, and_self, if_true, ht]
  rw [e]
  simp only [cold, slDec]
  rw [if_pos (show 1 = (rS cr).sz from rfl)]
  have key : ∀ (rows : List Row) (L : List (List α)), rows.length = L.length → (∀ (i : Nat) (hi : i < L.length), ∃ x, rows[i]? = some [x] ∧ slDec cr (cold (view H (d + 1) x)) = some L[i]) → (coldR (rows.map fun r => r.map (view H (d + 1)))).mapM (rS cr).dec = some L := by
    intro rows
    induction rows with
    | nil => intro L hl _; cases L with
      | nil => rfl
      | cons _ _ => simp at hl
    | cons r rows ih =>
      intro L hl hr
      cases L with
      | nil => simp at hl
      | cons l L =>
        obtain ⟨x, hx, hd⟩ := hr 0 (by simp)
        simp only [List.getElem?_cons_zero, Option.some.injEq] at hx
        subst hx
        have h2 := ih L (by simpa using hl) fun i hi => by
          obtain ⟨x, hx, hd⟩ := hr (i + 1) (by simpa using hi)
          exact ⟨x, by simpa using hx, by simpa using hd⟩
        simp only [List.map_cons, List.map_nil, coldR, coldC, List.mapM_cons, h2]
        have h3 : (rS cr).dec [cold (view H (d + 1) x)] = some l := by
          unfold rS rCell
          simp only [cellDec]
          exact hd
        rw [h3]
        rfl
  exact key rows L hl hr
theorem allV_oA {id k : Nat} {r : Row} : allV (oA id sz k :: r) = none := by unfold oA; split <;> rfl
theorem oneA_oA {id k : Nat} : oneA (oA id sz k) = true := by unfold oA; split <;> rfl
theorem res_oA {b : Bool} {id k : Nat} : res b (oA id sz k) = oA id sz k := by unfold oA; split <;> rfl
theorem oA_pos {id k : Nat} (h : ¬ k = 0) : oA id sz k = .osl id sz 0 k k := by simp [oA, h]
theorem oT_pos {rows : List Row} (h : ¬ rows = []) : oT sz rows = some (sz, rows) := by simp [oT, h]
theorem ownR_ne (h : ¬ L = []) : ¬ ownR sz c L = [] := fun e => h (List.length_eq_zero_iff.1 (by rw [← ownR_len (sz := sz) (c := c), e]; rfl))
theorem slR_cold {o : Bool} (hg : ∀ l : List α, coldR (l.map g) = l.map g) (L : List (List α)) : coldR (L.map (slR sz g o)) = L.map (slR sz g false) := by
  induction L with
  | nil => simp [coldR]
  | cons l L ih => simp [coldR, coldC, cold, ih, slR, hg]
theorem slR_dec {o : Bool} {cr : RCod α} (l : List α) : (rS cr).dec (slR cr.sz cr.enc o l) = some l := by
  unfold rS rCell slR
  simp only [cellDec, cSl, slDec, if_true]
  exact mapM_dec cr l
theorem slR_mapM {o : Bool} {cr : RCod α} (L : List (List α)) : (L.map (slR cr.sz cr.enc o)).mapM (rS cr).dec = some L := by
  induction L with
  | nil => rfl
  | cons l L ih =>
    simp only [List.map_cons, List.mapM_cons, slR_dec, ih]
    rfl
theorem slR_view {H : Heap} {o : Bool} (l : List α) : List.map (view H d) (slR sz g o l) = slR sz g o l := by cases d <;> simp [slR, view]
theorem slR_hotR (hg : ∀ l : List α, hotR (l.map g) = true) (L : List (List α)) : hotR (L.map (slR sz g true)) = true := by
  induction L with
  | nil => simp [hotR]
  | cons l L ih => simp [hotR, hotC, hot, ih, slR, hg]
theorem slR_ren {th : List Nat} {o : Bool} (l : List α) : List.map (ren n th) (slR sz g o l) = slR sz g o l := by simp [slR, ren]
theorem slR_low {o : Bool} (l : List α) : (slR sz g o l).all (lowA n) = true := by simp [slR, lowA]
end
end Go.AI
/- An own list becomes frozen data in the cell that holds it. -/
namespace Go.AI
set_option linter.unusedSimpArgs false
set_option linter.unusedVariables false
open Go.RowKit
section
variable {base : Nat} {w0 : World} {β : Nat → Nat} {fz : Nat → Prop} {H : Heap} {w : World} {P : Program} {n0 : Nat}
/-- what a list of one's own is, frozen -/
theorem HSim.froze (hs : HSim base w0 β fz H w) {n sz kc len : Nat} {rows : List Row} (hob : obj H n = some (sz, rows)) (hlen : len = rows.length) (hflat : ∀ r ∈ rows, r.all (lowA 0) = true) {v : Value} {fz' : Nat → Prop} (hf : ∀ b, fz b → fz' b) (hn : fz' (β n)) {m : Nat}
    (h : R β (okOf base fz) w H.length (.osl n sz 0 len kc) v) : R β (okOf base fz') w m (.fsl true sz rows) v := by
  subst hlen
  cases h with
  | @osl _ _ _ _ _ _ a cap h hl hk ha =>
    by_cases h0 : rows = []
    · subst h0; exact .fsl0
    · have hpos : 0 < rows.length := List.length_pos_iff.2 h0
      rcases ha with ha | ⟨rfl, _⟩
      · omega
      · obtain ⟨cs, e, g1, g2, g3, g4, g5⟩ := hs.cells hob
        rw [Nat.zero_mul]
        refine .fsl (fun i j => cs[i * sz + j]?.getD undef) (by omega) g2 (fun _ => ⟨hn, fun _ => (hs.own n ⟨_, obj_some hob⟩).1⟩) ?_ ?_
        · intro i j hi hj
          have h1 : i * sz + j < rows.length * sz := row_lt hi hj
          have h2 : i * sz + j < cs.size := by omega
          rw [Nat.zero_add]
          exact ⟨by simp [World.cell?, g1, h2], g4 (i * sz + j) _ (by simp [h2])⟩
        · intro i r hi j c hj
          have hr := g5 i r hi j c hj
          have hlow := hflat r (List.mem_of_getElem? hi)
          rw [List.all_eq_true] at hlow
          have := low_R hr (hlow c (List.mem_of_getElem? hj))
          exact this.mono (Nat.le_refl 0) (fun _ h => absurd h (Nat.not_lt_zero _)) (fun _ b hb => ⟨hf b hb.1, hb.2⟩) (fun _ _ _ => rfl) (Shapes.refl w)
/-- a list of one's own, frozen in the cell that holds it -/
theorem Ent.frz {ρ : Env} {n M i j sz kc szM len : Nat} {rows R : List Row} {r : Row} (hob : obj H n = some (sz, rows)) (hlen : len = rows.length) (hflat : ∀ r ∈ rows, r.all (lowA 0) = true)
    (hM : obj H M = some (szM, R)) (hMn : M ≠ n) (hr : R[i]? = some r) (hc : r[j]? = some (.osl n sz 0 len kc)) :
    Ent n0 (ρ, (H.set M (some (szM, R.set i (r.set j (.fsl true sz rows))))).set n none) (ρ, H) := by
  intro f base w0 β fz a w hn0 hs
  have hl : Live H n := ⟨_, obj_some hob⟩
  obtain ⟨s1, e1⟩ := hs.heap.freeze hl
  obtain ⟨hM1, hM2⟩ := obj_live hM
  have hMH : (H.set n none)[M]? = some (some (szM, R)) := by rw [List.getElem?_set_ne (fun e => hMn e.symm)]; exact hM1
  have hlen2 : (H.set n none).length = H.length := by simp
  have hcomm : (H.set M (some (szM, R.set i (r.set j (.fsl true sz rows))))).set n none = (H.set n none).set M (some (szM, R.set i (r.set j (.fsl true sz rows)))) := List.set_comm _ _ hMn
  refine ⟨β, fun b => fz b ∨ b = β n, ⟨?_, hs.defers, hs.size, ?_, fun t => ?_⟩⟩
  · simp only []
    rw [hcomm]
    refine ⟨?_, ?_, ?_, s1.fzlt, s1.below, s1.base⟩
    · intro k sz' rws hk
      rw [List.length_set]
      by_cases hkM : k = M
      · subst hkM
        have hlt : k < (H.set n none).length := (List.getElem?_eq_some_iff.1 hMH).1
        rw [List.getElem?_set_self hlt] at hk
        simp only [Option.some.injEq, Prod.mk.injEq] at hk
        obtain ⟨rfl, rfl⟩ := hk
        rw [OSim, if_neg hM2]
        obtain ⟨cs, e, g1, g2, g3, g4, g5⟩ := s1.cells0 hMH hM2
        have hi : i < R.length := (List.getElem?_eq_some_iff.1 hr).1
        have hrl := g2 r (List.mem_of_getElem? hr)
        refine ⟨cs, e, g1, ?_, by simpa using g3, g4, ?_⟩
        · intro r' hr'
          rcases List.mem_or_eq_of_mem_set hr' with h | h
          · exact g2 r' h
          · rw [h]; simpa using hrl
        · intro i' r' hi' j' c hj'
          by_cases hii : i' = i
          · subst hii
            rw [List.getElem?_set_self hi] at hi'
            cases hi'
            by_cases hjj : j' = j
            · subst hjj
              have hj : j' < r.length := (List.getElem?_eq_some_iff.1 hc).1
              rw [List.getElem?_set_self hj] at hj'
              cases hj'
              obtain ⟨cs0, e0, q1, _, _, _, q5⟩ := hs.heap.cells hM
              rw [g1] at q1
              cases q1
              exact hs.heap.froze hob hlen hflat (fun b hb => .inl hb) (.inr rfl) (q5 i' r hr j' _ hc)
            · rw [List.getElem?_set_ne (fun e => hjj e.symm)] at hj'
              exact g5 i' r hr j' c hj'
          · rw [List.getElem?_set_ne (fun e => hii e.symm)] at hi'
            exact g5 i' r' hi' j' c hj'
      · rw [List.getElem?_set_ne (fun e => hkM e.symm)] at hk
        exact s1.objs' k sz' rws hk
    · exact fun a b ha hb => s1.inj a b (ha.set ⟨_, hMH⟩) (hb.set ⟨_, hMH⟩)
    · exact fun k hk => s1.own k (hk.set ⟨_, hMH⟩)
  · have := hs.ext.trans e1
    simpa using this
  · have := (hs.env t).ext e1
    simpa using this
/-- the end of a function of one's own objects -/
theorem hsim_ent {βe : Nat → Nat} {fze : Nat → Prop} {we : World} {x r : AVal} {v : Value} {H' : Heap} (hs : HSim base w0 β fz H w) (he : Ext n0 βe fze we H.length β fz w) (hR : AI.R β (okOf base fz) w H.length x v)
    (h : Ent n0 ([(0, r)], H') ([(0, x)], H)) : ∃ β' fz', HSim base w0 β' fz' H' w ∧ Ext n0 βe fze we H'.length β' fz' w ∧ AI.R β' (okOf base fz') w H'.length r v := by
  have hsim : Sim ⟨1, n0, βe, fze, we⟩ base w0 β fz [(0, x)] H { tmps := #[v], defers := [] } w := by
    refine ⟨hs, rfl, rfl, he, fun t => ?_⟩
    cases t with
    | zero => simpa [look] using hR
    | succ t => simp only [look]; exact .junk
  obtain ⟨β', fz', hw⟩ := h _ _ _ _ _ _ _ rfl hsim
  have := hw.env 0
  exact ⟨_, _, hw.heap, hw.ext, by simpa [look] using this⟩
end
section
variable {P : Program} {f : FuncId} {fn : Func} {code : Code} {α α₁ α₂ α₃ ρ : Type}
def BodyE (P : Program) (fn : Func) (c : Code) (args : Row) (H : Heap) (r : AVal) (H' : Heap) : Prop :=
  args.length ≤ fn.ntmps ∧ AWp P fn.ntmps H.length c (retA P fn fun x H2 => Ent H.length ([(0, r)], H') ([(0, x)], H2)) (envOf 0 args) H
theorem inl_canonE (hf : P.funcs[f]? = some fn) (hb : fn.body = some code) {m : Row → Heap → Option (AVal × Heap)}
    (h : ∀ args H r H', m args H = some (r, H') → ∃ args', Canon args args' ∧ BodyE P fn code args' H r H') : InlOk P f m := by
  intro args H r H' hr base w0 β fz w vals hs hargs
  obtain ⟨args', hc, h1, h2⟩ := h args H r H' hr
  refine .of hf hb (body_calls hf hb h1 h2 ⟨fn.ntmps, H.length, β, fz, w⟩ rfl rfl hs (Ext.refl _ _ _ _) (hc.argsX hargs) _ ?_)
  rintro x v β' fz' H2 w' hx hs' he hR
  obtain ⟨β2, fz2, q1, q2, q3⟩ := hsim_ent hs' he hR hx
  exact ⟨v, β2, fz2, rfl, q1, q2, q3⟩
theorem bodyE_of {C : Orc} {args : Row} {H H' : Heap} {r : AVal} (hC : OrcOk P C) (hm : P.follows .mixedOrders = true) (hrf : codeRF C code = true) (hn : args.length ≤ fn.ntmps)
    (h : ∀ C' : Orc, C'.pure = C.pure → C'.inl = C.inl → C'.inline = C.inline → C'.dyn = C.dyn → C'.fp = C.fp → C'.alt = C.alt → C'.rd = C.rd → C'.cl = C.cl → wpA P C' fn.ntmps H.length code (retA P fn fun x H2 => Ent H.length ([(0, r)], H') ([(0, x)], H2)) (envOf 0 args) H) : BodyE P fn code args H r H' :=
  ⟨hn, wpA_sound hC hm _ _ _ _ hrf (h C rfl rfl rfl rfl rfl rfl rfl rfl)⟩
theorem ownE_1 {c1 : Cod α₁} (hf : P.funcs[f]? = some fn) (hb : fn.body = some code) {g : α₁ → Option (AVal × Heap)} (h : ∀ e1 r H', g e1 = some (r, H') → BodyE P fn code [c1.enc e1] [] r H') : InlOk P f (own0 (argG c1 fun e1 => finG (g e1))) := by
  refine inl_canonE hf hb fun args H r H' hr => ?_
  cases H with
  | cons o H => simp [own0] at hr
  | nil =>
    simp only [own0] at hr
    obtain ⟨x, e, rest, rfl, hd, hr⟩ := argG_some hr
    obtain ⟨rfl, hr⟩ := finG_some hr
    exact ⟨_, .cons c1 hd .nil, h e r H' hr⟩
/-- the next round's state, of a loop that counts to n -/
def NextE {α : Type} (n0 : Nat) (st : Nat → α → Env × Heap) (inv : Nat → α → Prop) (k : Nat) (ρ : Env) (H : Heap) : Prop := ∃ a, inv k a ∧ Ent n0 (st k a) (ρ, H)
@[congr] theorem NextE_congr {α : Type} {n0 : Nat} {st : Nat → α → Env × Heap} {inv : Nat → α → Prop} {k : Nat} {ρ ρ' : Env} {H H' : Heap} (h1 : ρ = ρ') (h2 : H = H') : NextE n0 st inv k ρ H = NextE n0 st inv k ρ' H' := by rw [h1, h2]
/-- a loop from 0 to n, whatever follows of a state -/
theorem loop_forE {C : Orc} {nt n0 : Nat} {ρ : Env} {H : Heap} {K : Nat} {c : Code} {Q : Post} {α : Type} (n : Nat) (st : Nat → α → Env × Heap) (inv : Nat → α → Prop) (a0 : α) (hb : ∀ k a, k < n → inv k a → k < 4294967296) (hi : inv 0 a0) (h0 : Ent n0 (st 0 a0) (ρ, H))
    (step : ∀ k a, k < n → inv k a → IntKind.i64.wrap ((k : Int) + 1) = (k : Int) + 1 → wpX P C nt (LoopK P C nt n0 K) c (thenA (NextE n0 st inv (k + 1)) Q) (st k a).1 (st k a).2)
    (last : ∀ a, inv n a → wpX P C nt (LoopK P C nt n0 K) c (thenA (fun _ _ => False) Q) (st n a).1 (st n a).2) : LoopK P C nt n0 (K + 1) c Q ρ H := by
  refine loop_ent (σ := {p : Nat × α // p.1 ≤ n ∧ inv p.1 p.2}) (fun p => st p.val.1 p.val.2) (fun p => n - p.val.1) ⟨(0, a0), Nat.zero_le _, hi⟩ h0 ?_
  rintro ⟨⟨k, a⟩, hk, hka⟩
  simp only at hk hka ⊢
  rcases Nat.lt_or_ge k n with hlt | hge
  · refine wpX_mono (LoopK_mono K) c _ _ _ _ (thenA_mono ?_ fun _ _ _ q => q) (step k a hlt hka (wrapN (n := k + 1) (by omega) (by have := hb k a hlt hka; omega)))
    rintro ρ H ⟨a', h1, h2⟩
    exact ⟨⟨(k + 1, a'), hlt, h1⟩, by simp only; omega, h2⟩
  · have : k = n := by omega
    subst this
    exact wpX_mono (LoopK_mono K) c _ _ _ _ (thenA_mono (fun _ _ q => q.elim) fun _ _ _ q => q) (last a hka)
end
end Go.AI
