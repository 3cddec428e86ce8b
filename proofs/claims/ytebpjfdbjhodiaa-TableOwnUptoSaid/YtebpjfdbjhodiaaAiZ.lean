/- Contracts of functions that own what they return. -/
import Derived.Test.YtebpjfdbjhodiaaAiY
set_option linter.unusedSimpArgs false
set_option linter.unusedVariables false
namespace Go.AI
open Go.RowKit
section
variable {P : Program} {f : FuncId} {fn : Func} {code : Code} {α α₁ α₂ α₃ ρ : Type}

def argG (c : Cod α) (k : α → Row → Option ρ) : Row → Option ρ
  | x :: r => match c.dec x with
    | some e => k e r
    | none => none
  | [] => none
def finG (a : Option ρ) : Row → Option ρ
  | [] => a
  | _ :: _ => none
/-- nothing is handed over -/
def own0 (k : Row → Option (AVal × Heap)) : Row → Heap → Option (AVal × Heap)
  | args, [] => k args
  | _, _ :: _ => none
/-- a slice is handed over -/
def own1 (c : RCod α) (k0 : Row → Option (AVal × Heap)) (k : List α → Row → Option (AVal × Heap)) : Row → Heap → Option (AVal × Heap)
  | .osl 0 sz 0 n kc :: rest, [some (sz', rows)] => if sz = c.sz ∧ sz' = c.sz ∧ n = rows.length ∧ kc = n ∧ 0 < n then (match rows.mapM c.dec with | some l => k l rest | none => none) else none
  | .esl :: rest, [] => k0 rest
  | .v (.slice none 0 0) :: rest, [] => k0 rest
  | _, _ => none

theorem argG_some {c : Cod α} {k : α → Row → Option ρ} {args : Row} {r : ρ} (h : argG c k args = some r) : ∃ x e rest, args = x :: rest ∧ c.dec x = some e ∧ k e rest = some r := by
  cases args with
  | nil => simp [argG] at h
  | cons x rest =>
    simp only [argG] at h
    split at h
    · rename_i e he; exact ⟨x, e, rest, rfl, he, h⟩
    · cases h
theorem finG_some {g : Option ρ} {args : Row} {r : ρ} (h : finG g args = some r) : args = [] ∧ g = some r := by
  cases args with
  | nil => exact ⟨rfl, h⟩
  | cons _ _ => simp [finG] at h

theorem Canon.argsX {args args' : Row} (h : Canon args args') {β : Nat → Nat} {base : Nat} {fz : Nat → Prop} {w : World} {n : Nat} {vals : Array Value} (hargs : ArgsR β (okOf base fz) w n args vals) : ArgsR β (okOf base fz) w n args' vals :=
  ⟨hargs.1.trans h.1.symm, fun j x hj => h.2 (fun _ _ hb => ⟨hb.1, fun h => by cases h⟩) j x _ hj (fun y hy => hargs.2 j y hy)⟩

def BodyI (P : Program) (fn : Func) (c : Code) (args : Row) (H : Heap) (r : AVal) (H' : Heap) : Prop :=
  args.length ≤ fn.ntmps ∧ AWp P fn.ntmps H.length c (retA P fn fun x H2 => ∃ th, WeakT H.length th ([(0, r)], H') ([(0, x)], H2)) (envOf 0 args) H

theorem inl_canon (hf : P.funcs[f]? = some fn) (hb : fn.body = some code) {m : Row → Heap → Option (AVal × Heap)}
    (h : ∀ args H r H', m args H = some (r, H') → ∃ args', Canon args args' ∧ BodyI P fn code args' H r H') : InlOk P f m := by
  intro args H r H' hr base w0 β fz w vals hs hargs
  obtain ⟨args', hc, h1, h2⟩ := h args H r H' hr
  refine .of hf hb (body_calls hf hb h1 h2 ⟨fn.ntmps, H.length, β, fz, w⟩ rfl rfl hs (Ext.refl _ _ _ _) (hc.argsX hargs) _ ?_)
  rintro x v β' fz' H2 w' ⟨th, hx⟩ hs' he hR
  obtain ⟨β2, q1, q2, q3⟩ := hsim_weakT hs' he hR hx
  exact ⟨v, β2, fz', rfl, q1, q2, q3⟩

theorem bodyI_of {C : Orc} {args : Row} {H H' : Heap} {r : AVal} (hC : OrcOk P C) (hm : P.follows .mixedOrders = true) (hrf : codeRF C code = true) (hn : args.length ≤ fn.ntmps)
    (h : ∀ C' : Orc, C'.pure = C.pure → C'.inl = C.inl → C'.inline = C.inline → C'.dyn = C.dyn → C'.fp = C.fp → C'.alt = C.alt → C'.rd = C.rd → C'.cl = C.cl → wpA P C' fn.ntmps H.length code (retA P fn fun x H2 => ∃ th, WeakT H.length th ([(0, r)], H') ([(0, x)], H2)) (envOf 0 args) H) : BodyI P fn code args H r H' :=
  ⟨hn, wpA_sound hC hm _ _ _ _ hrf (h C rfl rfl rfl rfl rfl rfl rfl rfl)⟩

theorem own0_1 {c1 : Cod α₁} (hf : P.funcs[f]? = some fn) (hb : fn.body = some code) {g : α₁ → Option (AVal × Heap)} (h : ∀ e1 r H', g e1 = some (r, H') → BodyI P fn code [c1.enc e1] [] r H') : InlOk P f (own0 (argG c1 fun e1 => finG (g e1))) := by
  refine inl_canon hf hb fun args H r H' hr => ?_
  cases H with
  | cons _ _ => simp [own0] at hr
  | nil =>
    simp only [own0] at hr
    obtain ⟨x1, e1, r1, rfl, h1, hr⟩ := argG_some hr
    obtain ⟨rfl, hr⟩ := finG_some hr
    exact ⟨_, .cons c1 h1 .nil, h e1 r H' hr⟩
theorem own0_2 {c1 : Cod α₁} {c2 : Cod α₂} (hf : P.funcs[f]? = some fn) (hb : fn.body = some code) {g : α₁ → α₂ → Option (AVal × Heap)} (h : ∀ e1 e2 r H', g e1 e2 = some (r, H') → BodyI P fn code [c1.enc e1, c2.enc e2] [] r H') : InlOk P f (own0 (argG c1 fun e1 => argG c2 fun e2 => finG (g e1 e2))) := by
  refine inl_canon hf hb fun args H r H' hr => ?_
  cases H with
  | cons _ _ => simp [own0] at hr
  | nil =>
    simp only [own0] at hr
    obtain ⟨x1, e1, r1, rfl, h1, hr⟩ := argG_some hr
    obtain ⟨x2, e2, r2, rfl, h2, hr⟩ := argG_some hr
    obtain ⟨rfl, hr⟩ := finG_some hr
    exact ⟨_, .cons c1 h1 (.cons c2 h2 .nil), h e1 e2 r H' hr⟩
theorem own0_3 {c1 : Cod α₁} {c2 : Cod α₂} {c3 : Cod α₃} (hf : P.funcs[f]? = some fn) (hb : fn.body = some code) {g : α₁ → α₂ → α₃ → Option (AVal × Heap)} (h : ∀ e1 e2 e3 r H', g e1 e2 e3 = some (r, H') → BodyI P fn code [c1.enc e1, c2.enc e2, c3.enc e3] [] r H') : InlOk P f (own0 (argG c1 fun e1 => argG c2 fun e2 => argG c3 fun e3 => finG (g e1 e2 e3))) := by
  refine inl_canon hf hb fun args H r H' hr => ?_
  cases H with
  | cons _ _ => simp [own0] at hr
  | nil =>
    simp only [own0] at hr
    obtain ⟨x1, e1, r1, rfl, h1, hr⟩ := argG_some hr
    obtain ⟨x2, e2, r2, rfl, h2, hr⟩ := argG_some hr
    obtain ⟨x3, e3, r3, rfl, h3, hr⟩ := argG_some hr
    obtain ⟨rfl, hr⟩ := finG_some hr
    exact ⟨_, .cons c1 h1 (.cons c2 h2 (.cons c3 h3 .nil)), h e1 e2 e3 r H' hr⟩

def Exact (c : RCod α) : Prop := ∀ r e, c.dec r = some e → r = c.enc e
theorem Exact.rows {c : RCod α} (hp : Exact c) : ∀ {rows : List Row} {l : List α}, rows.mapM c.dec = some l → rows = l.map c.enc
  | [], l, h => by simp at h; subst h; rfl
  | r :: rows, l, h => by
    simp only [List.mapM_cons, Option.bind_eq_bind, Option.bind_eq_some_iff, Option.pure_def, Option.some.injEq] at h
    obtain ⟨e, he, l', hl', rfl⟩ := h
    rw [hp r e he, Exact.rows hp hl', List.map_cons]

theorem Canon.soften {rest rest' : Row} (h : Canon rest rest') {x y : AVal} (hxy : ∀ {β : Nat → Nat} {ok : Bool → Nat → Prop} {w : World} {n : Nat} {v : Value}, R β ok w n x v → R β ok w n y v) : Canon (x :: rest) (y :: rest') := by
  refine ⟨by simp [h.1], fun hok j z v hj hy => ?_⟩
  cases j with
  | zero => simp at hj; subst hj; exact hxy (hy x (by simp))
  | succ j => exact h.2 hok j z v (by simpa using hj) (fun a ha => hy a (by simpa using ha))

theorem own1_1 {c : RCod α} {c1 : Cod α₁} (hp : Exact c) (hf : P.funcs[f]? = some fn) (hb : fn.body = some code) {g0 : α₁ → Option (AVal × Heap)} {g : List α → α₁ → Option (AVal × Heap)}
    (h0 : ∀ e1 r H', g0 e1 = some (r, H') → BodyI P fn code [.esl, c1.enc e1] [] r H')
    (h : ∀ l e1 r H', l ≠ [] → g l e1 = some (r, H') → BodyI P fn code [.osl 0 c.sz 0 l.length l.length, c1.enc e1] [some (c.sz, l.map c.enc)] r H') :
    InlOk P f (own1 c (argG c1 fun e1 => finG (g0 e1)) (fun l => argG c1 fun e1 => finG (g l e1))) := by
  refine inl_canon hf hb fun args H r H' hr => ?_
  unfold own1 at hr
  split at hr
  · rename_i sz n kc rest sz' rows
    split at hr
    · rename_i hc
      obtain ⟨rfl, rfl, rfl, rfl, hn⟩ := hc
      split at hr
      · rename_i l hl
        have hrows := hp.rows hl
        subst hrows
        obtain ⟨x1, e1, r1, rfl, h1, hr⟩ := argG_some hr
        obtain ⟨rfl, hr⟩ := finG_some hr
        have hl0 : l ≠ [] := by rintro rfl; simp at hn
        have := h l e1 r H' hl0 hr
        exact ⟨_, .soften (.cons c1 h1 .nil) (fun h => h), by simpa using this⟩
      · cases hr
    · cases hr
  · obtain ⟨x1, e1, r1, rfl, h1, hr⟩ := argG_some hr
    obtain ⟨rfl, hr⟩ := finG_some hr
    exact ⟨_, .soften (.cons c1 h1 .nil) (fun h => h), h0 e1 r H' hr⟩
  · obtain ⟨x1, e1, r1, rfl, h1, hr⟩ := argG_some hr
    obtain ⟨rfl, hr⟩ := finG_some hr
    exact ⟨_, .soften (.cons c1 h1 .nil) (fun h => by rw [h.v_inv]; exact .esl), h0 e1 r H' hr⟩
  · cases hr
end
end Go.AI
namespace Go.AI
section
variable {k : IntKind}
theorem irow_tau (fp : List Nat) (n : Nat) (e : Int) : List.map (tau fp n) (irow k e) = irow k e := by simp [irow, tau]
theorem irow_tauc (fp : List Nat) (n : Nat) : List.map (tau fp n) ∘ irow k = irow k := by funext e; exact irow_tau fp n e
theorem irow_bare (e : Int) : (irow k e).all bareA = true := by simp [irow, bareA]
theorem irow_bareR (l : List Int) : ((l.map (irow k)).all fun row => row.all bareA) = true := by simp [irow_bare]
theorem irow_flat (l : List Int) : flat0 (l.map (irow k)) = true := by simp [flat0, irow_low]
theorem irow_exact : Exact (rI k) := by
  intro r e h
  simp only [rI, RCod.plain] at h ⊢
  unfold irowDec at h
  split at h
  · split at h
    · rename_i hk; simp at h; rw [hk, h]; rfl
    · cases h
  · cases h
end
end Go.AI
namespace Go.AI
/-- what they meet -/
def cloneF : Row → Option (List Nat)
  | [.fsl _ _ _] => some []
  | [.osl id _ _ _ _] => some [id]
  | [.esl] => some []
  | _ => none
theorem clone_loc {sz : Nat} : ∀ args ids, cloneF args = some ids → Loc (cloneI sz args) ids true := by
  intro args ids h
  unfold cloneF at h
  split at h
  · rename_i o s rows
    simp at h
    subst h
    refine Loc.new ⟨fun n => if s = sz ∧ rows.length ≤ 4294967296 then (if rows.isEmpty then some (.esl, []) else some (.osl n sz 0 rows.length rows.length, [if sz = 0 then none else some (sz, rows)])) else none, fun H => ?_⟩
    simp only [cloneI, newObj']
    split
    · split <;> simp
    · rfl
  · rename_i id s st n kc
    simp at h
    subst h
    refine ⟨fun f m => match f id with
      | some (s', rows) => if s = sz ∧ s' = sz ∧ st + n ≤ rows.length ∧ n ≤ 4294967296 then (if n = 0 then some (.esl, [], []) else some (.osl m sz 0 n n, [], [if sz = 0 then none else some (sz, (rows.drop st).take n)])) else none
      | none => none, ⟨fun f g n hh => by simp only [hh id (by simp)], fun f n r hr => ?_, fun h => by cases h⟩, fun H => ?_⟩
    · refine ⟨fun u hu => ?_, fun h => by cases h⟩
      split at hr
      · split at hr
        · split at hr
          · simp at hr; subst hr; simp at hu
          · simp at hr; subst hr; simp at hu
        · cases hr
      · cases hr
    · simp only [cloneI, newObj']
      cases obj H id with
      | none => rfl
      | some p =>
        obtain ⟨s', rows⟩ := p
        simp only
        split
        · split <;> simp [updL]
        · rfl
  · simp at h
    subst h
    exact Loc.const (some .esl)
  · cases h
def frame0F (args : Row) : Option (List Nat) := if args.all noId then some [] else none
theorem frame0_loc {m : Row → Heap → Option (AVal × Heap)} : ∀ args ids, frame0F args = some ids → Loc (frame0 m args) ids true := by
  intro args ids h
  unfold frame0F at h
  split at h
  · rename_i hn
    simp at h
    subst h
    have e : ∀ H, (args.map fun a => cold (view H depthV a)) = args.map fun a => cold (view [] depthV a) := by
      intro H
      apply List.map_congr_left
      intro x hx
      rw [noId_view H _ _ (List.all_eq_true.1 hn x hx)]
    refine Loc.new ⟨fun n => match m (args.map fun a => cold (view [] depthV a)) [] with
      | some (r, H1) => if bareA r && bareH H1 then some (tau [] n r, H1.map (tauO [] n)) else none
      | none => none, fun H => ?_⟩
    unfold frame0
    rw [e H]
    cases m (args.map fun a => cold (view [] depthV a)) [] with
    | none => rfl
    | some p =>
      obtain ⟨r, H1⟩ := p
      simp only
      split <;> rfl
  · cases h
def frame1F : Row → Option (List Nat)
  | .osl id _ _ _ _ :: rest => if rest.all noId then some [id] else none
  | args => frame0F args
theorem frame1_loc {m : Row → Heap → Option (AVal × Heap)} : ∀ args ids, frame1F args = some ids → Loc (frame1 m args) ids true := by
  intro args ids h
  unfold frame1F at h
  split at h
  · rename_i id sz s len kc rest
    split at h
    · rename_i hn
      simp at h
      subst h
      have e : ∀ H, (rest.map fun a => cold (view H depthV a)) = rest.map fun a => cold (view [] depthV a) := by
        intro H
        apply List.map_congr_left
        intro x hx
        rw [noId_view H _ _ (List.all_eq_true.1 hn x hx)]
      refine ⟨fun f n => match f id with
        | some (sz', rows) =>
          if flat0 rows then
            match m (.osl 0 sz s len kc :: rest.map fun a => cold (view [] depthV a)) [some (sz', rows)] with
            | some (r, o :: H1) => if bareA r && bareH (o :: H1) then some (tau [id] n r, [(id, tauO [id] n o)], H1.map (tauO [id] n)) else none
            | _ => none
          else none
        | none => none, ⟨fun f g n hh => by simp only [hh id (by simp)], fun f n r hr => ?_, fun h => by cases h⟩, fun H => ?_⟩
      · refine ⟨fun u hu => ?_, fun h => by cases h⟩
        split at hr
        · split at hr
          · split at hr
            · split at hr
              · simp at hr; subst hr; simp at hu; subst hu; simp
              · cases hr
            · cases hr
          · cases hr
        · cases hr
      · simp only [frame1, e]
        cases obj H id with
        | none => rfl
        | some p =>
          obtain ⟨sz', rows⟩ := p
          simp only
          split
          · generalize m (.osl 0 sz s len kc :: rest.map fun a => cold (view [] depthV a)) [some (sz', rows)] = z
            cases z with
            | none => rfl
            | some q =>
              obtain ⟨r, H1⟩ := q
              cases H1 with
              | nil => rfl
              | cons o H1 =>
                simp only
                split <;> simp [updL]
          · rfl
    · cases h
  · rename_i hne
    have : frame1 m args = frame0 m args := by
      funext H
      cases args with
      | nil => rfl
      | cons a r =>
        cases a <;> first | rfl | exact absurd rfl (hne _ _ _ _ _ _)
    rw [this]
    exact frame0_loc args ids h
def insertF : Row → Option (List Nat)
  | [.osl id _ 0 _ _, .v (.int .i64 _), .osl vid _ 0 1 1] => some [id, vid]
  | [.esl, .v (.int .i64 _), .osl vid _ 0 1 1] => some [vid]
  | _ => none
theorem insert_loc {sz : Nat} : ∀ args ids, insertF args = some ids → Loc (insertI sz args) ids true := by
  intro args ids h
  unfold insertF at h
  split at h
  · rename_i id sz1 n kc i vid sz2
    simp at h
    subst h
    refine ⟨fun f m => match f id, f vid with
      | some (sz3, rows), some (sz4, [vr]) =>
        if sz1 = sz ∧ sz2 = sz ∧ sz3 = sz ∧ sz4 = sz ∧ 0 < sz ∧ id ≠ vid ∧ rows.length = n ∧ kc = n ∧ 0 ≤ i ∧ i ≤ n ∧ n ≤ 1048576 then
          some (.osl m sz 0 (n + 1) (n + 1), [(id, none)], [some (sz, rows.take i.toNat ++ [vr] ++ rows.drop i.toNat)])
        else none
      | _, _ => none, ⟨fun f g n hh => by simp only [hh id (by simp), hh vid (by simp)], fun f n r hr => ?_, fun h => by cases h⟩, fun H => ?_⟩
    · refine ⟨fun u hu => ?_, fun h => by cases h⟩
      split at hr
      · split at hr
        · simp at hr; subst hr; simp at hu; subst hu; simp
        · cases hr
      · cases hr
    · simp only [insertI]
      split
      · rename_i h1 h2
        simp only [h1, h2]
        split <;> simp [updL]
      · rename_i hno
        split
        · rename_i h1 h2
          exact absurd h2 (hno _ _ _ _ h1)
        · rfl
  · rename_i i vid sz2
    simp at h
    subst h
    refine ⟨fun f m => match f vid with
      | some (sz4, [vr]) => if sz2 = sz ∧ sz4 = sz ∧ 0 < sz ∧ i = 0 then some (.osl m sz 0 1 1, [], [if sz = 0 then none else some (sz, [vr])]) else none
      | _ => none, ⟨fun f g n hh => by simp only [hh vid (by simp)], fun f n r hr => ?_, fun h => by cases h⟩, fun H => ?_⟩
    · refine ⟨fun u hu => ?_, fun h => by cases h⟩
      split at hr
      · split at hr
        · simp at hr; subst hr; simp at hu
        · cases hr
      · cases hr
    · simp only [insertI, newObj']
      split
      · rename_i h1
        simp only [h1]
        split <;> simp [updL]
      · rename_i hno
        split
        · rename_i h1
          exact absurd h1 (hno _ _)
        · rfl
  · cases h
end Go.AI
