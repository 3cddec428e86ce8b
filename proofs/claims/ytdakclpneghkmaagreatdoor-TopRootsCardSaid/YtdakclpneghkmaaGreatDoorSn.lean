/- Contracts from a written state: by hand, and at a string with a mark. -/
import Derived.Test.YtdakclpneghkmaaGreatDoorWk
namespace Go.AI
set_option linter.unusedSectionVars false
variable [Go.AI.Sym]
set_option linter.unusedSectionVars false
set_option maxRecDepth 100000
open Go.RowKit
theorem Canon.refl (args : Row) : Canon args args := ⟨rfl, fun _ _ _ _ h k => k _ h⟩
theorem snapE {P : Program} {f : FuncId} {fn : Func} {code : Code} (hf : P.funcs[f]? = some fn) (hb : fn.body = some code) {a : Row} {n n' : Nat} {l l' : LS} {r : AVal} (hlen : a.length ≤ fn.ntmps)
  (h : AWp P fn.ntmps n code (retA P fn fun x H2 => Ent n ([(0, r)], mkH n' l') ([(0, x)], H2)) (envOf 0 a) (mkH n l)) : InlOk P f (snapM a n l r n' l') := by
 refine inl_canonE hf hb fun args H r0 H' hr => ?_
 unfold snapM at hr
 split at hr
 case isFalse => cases hr
 rename_i hc
 obtain ⟨rfl, hsub⟩ := hc
 simp only [Option.some.injEq, Prod.mk.injEq] at hr
 obtain ⟨rfl, rfl⟩ := hr
 have hl : H.length = n := by rw [← hsub.len, mkH_len]
 refine ⟨args, Canon.refl _, hlen, ?_⟩
 rw [hl]
 exact AWp.ent h (Ent.ofH hsub.len fun hs => hs.sub hsub)
theorem snap_mark {P : Program} {f : FuncId} {pre post : Row} {k n n' : Nat} {l l' : LS} {r : AVal} (h : ∀ x, Sym.P k x → InlOk P f (snapM (pre ++ .v x :: post) n l r n' l')) : InlOk P f (snapM (pre ++ .str k :: post) n l r n' l') := by
 intro args H r0 H' hr base w0 β fz w vals hs hargs
 unfold snapM at hr
 split at hr
 case isFalse => cases hr
 rename_i hc
 obtain ⟨rfl, hsub⟩ := hc
 have h0 := hargs.2 pre.length (.str k) (by simp)
 generalize hv : vals[pre.length]?.getD undef = y at h0
 cases h0 with
 | str hP =>
  refine h _ hP _ H r0 H' (by unfold snapM; rw [if_pos ⟨rfl, hsub⟩]; exact hr) base w0 β fz w vals hs ⟨by simpa using hargs.1, fun j a ha => ?_⟩
  by_cases hj : j = pre.length
  ·subst hj
   simp at ha
   subst ha
   rw [hv]; exact .v
  ·refine hargs.2 j a ?_
   rw [← ha]
   rcases Nat.lt_or_gt_of_ne hj with h | h
   ·rw [List.getElem?_append_left h, List.getElem?_append_left h]
   ·rw [List.getElem?_append_right (by omega), List.getElem?_append_right (by omega)]
    obtain ⟨i, hi⟩ : ∃ i, j - pre.length = i + 1 := ⟨j - pre.length - 1, by omega⟩
    rw [hi]; rfl
theorem snapR {P : Program} {fn : Func} {code : Code} {n n' : Nat} {l' : LS} {r : AVal} {ρ : Env} {H : Heap} {ρ' : Env} {e : Exit} (he : e = .ret ∨ e = .normal) (hres : ∃ q, resA P ρ' (mkH n' l') fn.results.toList = some q ∧ tupA q = r)
  (h : AWp P fn.ntmps n code (fun e2 ρ2 H2 => e2 = e ∧ Ent n (ρ', mkH n' l') (ρ2, H2)) ρ H) : AWp P fn.ntmps n code (retA P fn fun x H2 => Ent n ([(0, r)], mkH n' l') ([(0, x)], H2)) ρ H := by
 obtain ⟨q, hq, hr⟩ := hres
 refine h.toX.mono ?_
 intro e2 ρ2 H2 hx
 simp only [IsX, Prod.mk.injEq] at hx
 obtain ⟨rfl, rfl, rfl⟩ := hx
 rcases he with rfl | rfl <;> (simp only [retA, hq, hr]; exact Ent.refl _ _)
theorem InlOk.junk {P : Program} {f : FuncId} {a : Row} {n n' : Nat} {l l' : LS} {r : AVal} (h : InlOk P f (snapM a n l r n' l')) : InlOk P f (snapM a n l .junk n' l') := by
 intro args H r0 H' hr base w0 β fz w vals hs hargs fn hfn
 unfold snapM at hr
 split at hr
 case isFalse => cases hr
 rename_i hc
 simp only [Option.some.injEq, Prod.mk.injEq] at hr
 obtain ⟨rfl, rfl⟩ := hr
 obtain ⟨k1, k2⟩ := h args H r (mkH n' l') (if_pos hc) base w0 β fz w vals hs hargs fn hfn
 have key : ∀ e w', (∃ v β' fz', e = Ending.returned v ∧ HSim base w0 β' fz' (mkH n' l') w' ∧ Ext H.length β fz w (mkH n' l').length β' fz' w' ∧ R β' (okOf base fz') w' (mkH n' l').length r v) → ∃ v β' fz', e = .returned v ∧ HSim base w0 β' fz' (mkH n' l') w' ∧ Ext H.length β fz w (mkH n' l').length β' fz' w' ∧ R β' (okOf base fz') w' (mkH n' l').length .junk v := by
  rintro e w' ⟨v, β', fz', a1, a2, a3, a4⟩
  exact ⟨v, β', fz', a1, a2, a3, .junk⟩
 exact ⟨fun hb => (k1 hb).mono key, fun hb => let ⟨v, w', b1, b2⟩ := k2 hb; ⟨v, w', b1, key _ _ b2⟩⟩
theorem InlOk.more {P : Program} {f : FuncId} {a a' : Row} {n n' : Nat} {l l' : LS} {r : AVal} (h : InlOk P f (snapM a n l r n' l')) (hl : a.length = a'.length) (ha : ∀ (j : Nat) x y, a'[j]? = some x → a[j]? = some y → Lss x y) : InlOk P f (snapM a' n l r n' l') := by
 intro args H r0 H' hr base w0 β fz w vals hs hargs
 unfold snapM at hr
 split at hr
 case isFalse => cases hr
 rename_i hc
 obtain ⟨rfl, hsub⟩ := hc
 refine h a H r0 H' (by unfold snapM; rw [if_pos ⟨rfl, hsub⟩]; exact hr) base w0 β fz w vals hs ⟨by rw [hargs.1, hl], fun j y hy => ?_⟩
 have hj : j < args.length := by rw [← hl]; exact (List.getElem?_eq_some_iff.1 hy).1
 exact ha j args[j] y (List.getElem?_eq_getElem hj) hy (fun o b hb => ⟨hb.1, fun q => by cases q⟩) (hargs.2 j args[j] (List.getElem?_eq_getElem hj))
end Go.AI
namespace Go.Proofs.GD
set_option linter.unusedSectionVars false
variable [Go.AI.Sym]
open Go Go.AI Go.RowKit
noncomputable def obsF (x : Option (AVal × TH)) (n : Nat) (l : LS) (ks : List Nat) : Option (AVal × List (Option Ob)) := match x with
 | some (r, T) => cond (Nat.beq T.n n) (cond (checkLS T l) (some (r, ks.map fun k => (tgetR T.t k).map absO)) none) none
 | none => none
theorem obsF_some {x : Option (AVal × TH)} {n : Nat} {l : LS} {ks : List Nat} {r : AVal} {os : List (Option Ob)} (h : obsF x n l ks = some (r, os)) : ∃ T, x = some (r, T) ∧ Nat.beq T.n n = true ∧ checkLS T l = true ∧ os = ks.map fun k => (tgetR T.t k).map absO := by
 unfold obsF at h
 split at h
 case h_2 => cases h
 rename_i r' T
 obtain ⟨h3, h4⟩ := condW h
 obtain ⟨h5, h6⟩ := condW h4
 simp only [Option.some.injEq, Prod.mk.injEq] at h6
 exact ⟨T, by rw [h6.1], h3, h5, h6.2.symm⟩
theorem snapF {cat : FuncId → Sp} (hT : TabV Tryz.prog tab4 cat) {f : Nat} {a : Row} {n n' : Nat} {l0 l' : LS} {r : AVal} {bx : Nat → LO} (h0 : okLS n l0 = true)
  (hx : obsF (execT Tryz.prog tab4 cat live 5000 60 f a (mkT n l0)) n' l' bxK = some (r, bxO bx)) : InlOk Tryz.prog f (snapM a n l0 r n' (l' ++ bxL bx)) := by
 have hm : Tryz.prog.follows .mixedOrders = true := by kernel_rfl
 obtain ⟨T, h1, h2, h3, h4⟩ := obsF_some hx
 obtain ⟨H, q1, q2⟩ := execT_sim 60 f a (mkT n l0) (mkH n l0) (mkT_R h0) r T h1
 exact snap_inl (execW_inl hT hm 60 f) q1 (subB q2 h2 h3 h4)
noncomputable def obsJ (x : Option (AVal × TH)) (n : Nat) (l : LS) : Bool := match x with
 | some (_, T) => cond (Nat.beq T.n n) (checkLS T l) false
 | none => false
theorem subS {T : TH} {H : Heap} (h : TR T H) {n : Nat} {l : LS} (hn : Nat.beq T.n n = true) (hc : checkLS T l = true) : SubH (mkH n l) H := subH_of h hn hc
theorem snapJ {cat : FuncId → Sp} (hT : TabV Tryz.prog tab4 cat) {f : Nat} {a : Row} {n n' : Nat} {l l' : LS} (h0 : okLS n l = true) (hx : obsJ (execT Tryz.prog tab4 cat live 5000 60 f a (mkT n l)) n' l' = true) : InlOk Tryz.prog f (snapM a n l .junk n' l') := by
 have hm : Tryz.prog.follows .mixedOrders = true := by kernel_rfl
 unfold obsJ at hx
 split at hx
 case h_2 => cases hx
 rename_i r T he
 cases h1 : Nat.beq T.n n' with
 | false => rw [h1] at hx; cases hx
 | true =>
  rw [h1, cond_true] at hx
  obtain ⟨H, q1, q2⟩ := execT_sim 60 f a (mkT n l) (mkH n l) (mkT_R h0) r T he
  exact (snap_inl (execW_inl hT hm 60 f) q1 (subS q2 h1 hx)).junk
end Go.Proofs.GD
/- The memory under other names: some places have come anew, and stand for old ones. -/
namespace Go.AI
set_option linter.unusedSectionVars false
variable [Go.AI.Sym]
set_option linter.unusedSectionVars false
set_option maxRecDepth 100000
open Go.RowKit
def gOf : List (Nat × Nat) → Nat → Nat
 | [], i => i
 | p :: r, i => cond (Nat.beq i p.1) p.2 (gOf r i)
def keyB (n : Nat) : List (Nat × Nat) → Bool
 | [] => true
 | p :: r => Nat.blt p.1 n && Nat.ble n p.2 && (r.all fun q => !Nat.beq q.1 p.1 && !Nat.beq q.2 p.2) && keyB n r
theorem gOf_old {n : Nat} : ∀ {mv : List (Nat × Nat)}, keyB n mv = true → ∀ i, i < n → (gOf mv i = i ∧ ∀ p ∈ mv, p.1 ≠ i) ∨ ∃ p ∈ mv, p.1 = i ∧ gOf mv i = p.2
 | [], _, i, _ => .inl ⟨rfl, fun p hp => by cases hp⟩
 | p :: r, h, i, hi => by
  simp only [keyB, Bool.and_eq_true] at h
  simp only [gOf]
  cases e : Nat.beq i p.1 with
  | true => exact .inr ⟨p, by simp, (Nat.eq_of_beq_eq_true e).symm, by simp⟩
  | false =>
   have hne : p.1 ≠ i := fun q => by rw [q, Nat.beq_refl] at e; cases e
   rcases gOf_old h.2 i hi with ⟨h1, h2⟩ | ⟨q, hq, h1, h2⟩
   ·refine .inl ⟨h1, fun q hq => ?_⟩
    rcases List.mem_cons.1 hq with rfl | hq
    ·exact hne
    ·exact h2 q hq
   ·exact .inr ⟨q, by simp [hq], h1, h2⟩
theorem keyB_low {n : Nat} : ∀ {mv : List (Nat × Nat)}, keyB n mv = true → ∀ p ∈ mv, p.1 < n ∧ n ≤ p.2
 | [], _, p, hp => by cases hp
 | q :: r, h, p, hp => by
  simp only [keyB, Bool.and_eq_true] at h
  rcases List.mem_cons.1 hp with rfl | hp
  ·exact ⟨by simpa using h.1.1.1, Nat.le_of_ble_eq_true h.1.1.2⟩
  ·exact keyB_low h.2 p hp
theorem keyB_val {n : Nat} : ∀ {mv : List (Nat × Nat)}, keyB n mv = true → ∀ p ∈ mv, ∀ q ∈ mv, p.2 = q.2 → p.1 = q.1
 | [], _, p, hp, _, _, _ => by cases hp
 | x :: r, h, p, hp, q, hq, e => by
  simp only [keyB, Bool.and_eq_true, List.all_eq_true, Bool.not_eq_true'] at h
  rcases List.mem_cons.1 hp with h1 | h1 <;> rcases List.mem_cons.1 hq with h2 | h2
  ·rw [h1, h2]
  ·have := (h.1.2 q h2).2; rw [← e, h1, Nat.beq_refl] at this; cases this
  ·have := (h.1.2 p h1).2; rw [e, h2, Nat.beq_refl] at this; cases this
  ·exact keyB_val h.2 p h1 q h2 e
theorem gOf_inj {n : Nat} {mv : List (Nat × Nat)} (h : keyB n mv = true) {i j : Nat} (hi : i < n) (hj : j < n) (e : gOf mv i = gOf mv j) : i = j := by
 rcases gOf_old h i hi with ⟨h1, _⟩ | ⟨p, hp, h1, h2⟩ <;> rcases gOf_old h j hj with ⟨h3, _⟩ | ⟨q, hq, h3, h4⟩
 ·omega
 ·have := (keyB_low h q hq).2; omega
 ·have := (keyB_low h p hp).2; omega
 ·rw [← h1, ← h3]; exact keyB_val h p hp q hq (by omega)
mutual
def mvA (g : Nat → Nat) : AVal → AVal
 | .ptr id sz i off => .ptr (g id) sz i off
 | .osl id sz s len kc => .osl (g id) sz s len kc
 | .xsl id sz s len kc => .xsl (g id) sz s len kc
 | .agg cs => .agg (mvC g cs)
 | .tup vs => .tup (mvC g vs)
 | .fn f caps => .fn f (mvC g caps)
 | .when b a => .when b (mvA g a)
 | .ifc t a => .ifc t (mvA g a)
 | a => a
def mvC (g : Nat → Nat) : List AVal → List AVal
 | [] => []
 | a :: r => mvA g a :: mvC g r
end
theorem mvC_map (g : Nat → Nat) : ∀ l : Row, mvC g l = l.map (mvA g)
 | [] => by simp [mvC]
 | a :: r => by simp [mvC, mvC_map g r]
def thG (n : Nat) (g : Nat → Nat) : List Nat := (List.range n).map g
theorem thG_of {n : Nat} {g : Nat → Nat} {id : Nat} (h : id < n) : thOf 0 (thG n g) id = g id := by
 unfold thOf thG
 rw [if_neg (by omega)]
 simp [h]
theorem mv_ren {n : Nat} {g : Nat → Nat} : ∀ (a : AVal), lowA n a = true → ren 0 (thG n g) a = mvA g a
 | .junk, _ => rfl
 | .anyb, _ => rfl
 | .anyi _, _ => rfl
 | .str _, _ => rfl
 | .v _, _ => rfl
 | .ptr id _ _ _, h => by
  have h : id < n := by simpa [lowA] using h
  simp [ren, mvA, thG_of h]
 | .fptr _ _, _ => rfl
 | .osl id _ _ _ _, h => by
  have h : id < n := by simpa [lowA] using h
  simp [ren, mvA, thG_of h]
 | .xsl id _ _ _ _, h => by
  have h : id < n := by simpa [lowA] using h
  simp [ren, mvA, thG_of h]
 | .fsl _ _ _, _ => rfl
 | .esl, _ => rfl
 | .agg cs, h => by
  simp only [lowA, lowC_all] at h
  simp only [ren, renC_map, mvA, mvC_map]
  rw [List.map_congr_left fun a ha => mv_ren a (List.all_eq_true.1 h a ha)]
 | .tup cs, h => by
  simp only [lowA, lowC_all] at h
  simp only [ren, renC_map, mvA, mvC_map]
  rw [List.map_congr_left fun a ha => mv_ren a (List.all_eq_true.1 h a ha)]
 | .fn _ cs, h => by
  simp only [lowA, lowC_all] at h
  simp only [ren, renC_map, mvA, mvC_map]
  rw [List.map_congr_left fun a ha => mv_ren a (List.all_eq_true.1 h a ha)]
 | .when _ a, h => by
  simp only [ren, mvA]
  rw [mv_ren a (by simpa [lowA] using h)]
 | .ifc _ a, h => by
  simp only [ren, mvA]
  rw [mv_ren a (by simpa [lowA] using h)]
 | .meth _ _, _ => rfl
termination_by a => SizeOf.sizeOf a
decreasing_by
 all_goals simp_wf
 all_goals first
  |(have := List.sizeOf_lt_of_mem ha; omega)
  | omega
theorem low_le {n m : Nat} (hnm : n ≤ m) : ∀ (a : AVal), lowA n a = true → lowA m a = true
 | .junk, _ => rfl
 | .anyb, _ => rfl
 | .anyi _, _ => rfl
 | .str _, _ => rfl
 | .v _, _ => rfl
 | .ptr id _ _ _, h => by simp [lowA] at h ⊢; omega
 | .fptr _ _, h => h
 | .osl id _ _ _ _, h => by simp [lowA] at h ⊢; omega
 | .xsl id _ _ _ _, h => by simp [lowA] at h ⊢; omega
 | .fsl _ _ _, h => h
 | .esl, _ => rfl
 | .agg cs, h => by
  simp only [lowA, lowC_all] at h ⊢
  exact List.all_eq_true.2 fun a ha => low_le hnm a (List.all_eq_true.1 h a ha)
 | .tup cs, h => by
  simp only [lowA, lowC_all] at h ⊢
  exact List.all_eq_true.2 fun a ha => low_le hnm a (List.all_eq_true.1 h a ha)
 | .fn _ cs, h => by
  simp only [lowA, lowC_all] at h ⊢
  exact List.all_eq_true.2 fun a ha => low_le hnm a (List.all_eq_true.1 h a ha)
 | .when _ a, h => by
  simp only [lowA] at h ⊢
  exact low_le hnm a h
 | .ifc _ a, h => by
  simp only [lowA] at h ⊢
  exact low_le hnm a h
 | .meth _ _, _ => rfl
termination_by a => SizeOf.sizeOf a
decreasing_by
 all_goals simp_wf
 all_goals first
  |(have := List.sizeOf_lt_of_mem ha; omega)
  | omega
theorem low_up {n : Nat} (a : AVal) (h : lowA 0 a = true) : lowA n a = true := low_le (Nat.zero_le _) a h
theorem ren_none (th : List Nat) : ∀ (a : AVal), lowA 0 a = true → ren 0 th a = a
 | .junk, _ => rfl
 | .anyb, _ => rfl
 | .anyi _, _ => rfl
 | .str _, _ => rfl
 | .v _, _ => rfl
 | .ptr id _ _ _, h => by simp [lowA] at h
 | .fptr _ _, _ => rfl
 | .osl id _ _ _ _, h => by simp [lowA] at h
 | .xsl id _ _ _ _, h => by simp [lowA] at h
 | .fsl _ _ _, _ => rfl
 | .esl, _ => rfl
 | .agg cs, h => by
  simp only [lowA, lowC_all] at h
  simp only [ren, renC_map]
  rw [List.map_congr_left (g := id) fun a ha => ren_none th a (List.all_eq_true.1 h a ha), List.map_id]
 | .tup cs, h => by
  simp only [lowA, lowC_all] at h
  simp only [ren, renC_map]
  rw [List.map_congr_left (g := id) fun a ha => ren_none th a (List.all_eq_true.1 h a ha), List.map_id]
 | .fn _ cs, h => by
  simp only [lowA, lowC_all] at h
  simp only [ren, renC_map]
  rw [List.map_congr_left (g := id) fun a ha => ren_none th a (List.all_eq_true.1 h a ha), List.map_id]
 | .when _ a, h => by
  simp only [ren]
  rw [ren_none th a (by simpa [lowA] using h)]
 | .ifc _ a, h => by
  simp only [ren]
  rw [ren_none th a (by simpa [lowA] using h)]
 | .meth _ _, _ => rfl
termination_by a => SizeOf.sizeOf a
decreasing_by
 all_goals simp_wf
 all_goals first
  |(have := List.sizeOf_lt_of_mem ha; omega)
  | omega
def mvLO (g : Nat → Nat) : LO → LO
 | .ls sz rows => .ls sz (rows.map fun r => r.map (mvA g))
 | o => o
def mvP (g : Nat → Nat) (p : Nat × LO) : Nat × LO := (g p.1, mvLO g p.2)
def lowMV (n : Nat) : LO → Bool
 | .ls sz rows => lowLO n (.ls sz rows)
 | o => lowLO 0 o
def lowM (n : Nat) (l : LS) : Bool := l.all fun p => Nat.blt p.1 n && lowMV n p.2
theorem mv_obj {n : Nat} {g : Nat → Nat} {o : LO} (ho : okLO o = true) (h : lowMV n o = true) {q : Nat × List Row} (hq : absO (toO o) = some q) :
  absO (toO (mvLO g o)) = some (q.1, q.2.map (List.map (ren 0 (thG n g)))) ∧ (q.2.all fun row => row.all (lowA n)) = true := by
 cases o with
 | ls sz rows =>
  cases hq
  have h : (rows.all fun r => r.all (lowA n)) = true := h
  refine ⟨?_, h⟩
  show some (sz, rows.map fun r => r.map (mvA g)) = _
  rw [List.map_congr_left fun row hrow => List.map_congr_left fun a ha => (mv_ren (n := n) (g := g) a (List.all_eq_true.1 (List.all_eq_true.1 h row hrow) a ha)).symm]
 | ar sz m x ps =>
  have h0 := lowLO_ok (n := 0) ho h q hq
  refine ⟨?_, ?_⟩
  ·show absO (toO (.ar sz m x ps)) = _
   rw [hq]
   have e : q.2.map (List.map (ren 0 (thG n g))) = q.2 := by
    rw [List.map_congr_left (g := fun r => r) fun row hrow => ?_, List.map_id']
    rw [List.map_congr_left (g := fun a => a) fun a ha => ren_none _ a (List.all_eq_true.1 (List.all_eq_true.1 h0 row hrow) a ha), List.map_id']
   rw [e]
  ·rw [List.all_eq_true] at h0 ⊢
   intro row hrow
   have h1 := h0 row hrow
   rw [List.all_eq_true] at h1 ⊢
   intro a ha
   exact low_up a (h1 a ha)
theorem ent_move {n : Nat} {mv : List (Nat × Nat)} {l' : LS} {ρ' ρ : Env} {H : Heap} (hmv : keyB n mv = true) (ok : okLS n l' = true) (low : lowM n l' = true)
  (hρ : ∀ p ∈ ρ', look ρ p.1 = mvA (gOf mv) p.2 ∧ lowA n p.2 = true) (h : ∀ p ∈ l', H[gOf mv p.1]? = some (absO (toO (mvLO (gOf mv) p.2)))) : Ent 0 (ρ', mkH n l') (ρ, H) := by
 have hnd : (thG n (gOf mv)).Nodup := by
  unfold thG
  rw [List.nodup_iff_pairwise_ne, List.pairwise_map]
  refine List.Pairwise.imp_of_mem (R := fun i j => i ≠ j) (fun {i j} hi hj hij e => hij (gOf_inj hmv (List.mem_range.1 hi) (List.mem_range.1 hj) e)) ?_
  exact List.nodup_range
 refine Ent.weakT (th := thG n (gOf mv)) ⟨⟨Nat.zero_le _, Nat.zero_le _⟩, ⟨hnd, by rw [mkH_len]; simp [thG], fun x _ => Nat.zero_le _⟩, fun p hp => ?_, ?_⟩
 ·rw [mkH_len]
  obtain ⟨h1, h2⟩ := hρ p hp
  exact ⟨by rw [mv_ren _ h2]; exact h1, h2⟩
 ·refine heapT_ofO fun id o ho => ?_
  rw [Nat.zero_add, mkH_len]
  have hid : id < n := by have := (List.getElem?_eq_some_iff.1 ho).1; rwa [mkH_len] at this
  rcases putLH_mem id o ho with h0 | ⟨p, hp, h1, h2⟩
  ·rw [List.getElem?_replicate] at h0
   split at h0 <;> cases h0
  ·simp only [okLS, Bool.and_eq_true, List.all_eq_true, decide_eq_true_eq] at ok
   simp only [lowM, List.all_eq_true, Bool.and_eq_true] at low
   obtain ⟨q1, q2⟩ := mv_obj (g := gOf mv) (ok.2 p hp).2 (low p hp).2 h2
   refine ⟨?_, q2⟩
   rw [thG_of hid, ← h1, h p hp, q1]
end Go.AI
/- w.walk in phase A: its contract. -/
namespace Go.Proofs.GD
set_option linter.unusedSectionVars false
variable [Go.AI.Sym]
open Go Go.AI Go.RowKit
set_option maxRecDepth 100000
set_option maxHeartbeats 2000000
set_option linter.unusedSimpArgs false
set_option linter.unusedVariables false
attribute [local simp] wpA wpX RunA RunD runF foot footP footB idsA bare apart runL step1 gsel_f gsel_t gsel_s res_same res_and1 res_and2 res_and3 res_and4 res_and5 res_and6 res_false res_true res_v res_ptr res_fptr res_osl res_xsl soft aAppendZ aCap ovlI ovlJ res_fsl res_esl res_agg res_tup res_fn res_junk res_anyb aPick hk imp_left iteV dstOk guardOk astep astepE AI.ev AI.look AI.put envOf aBox cellsOf allOne allOneA oneA Value.oneCell' Value.cells newObj' aFieldAddr aLoad obj readAt thenA blockA condA retA resA tupA view hot hotC hotR depthV cAgg cInt cBool mkAgg allV aAlloc aBuild fillA writeAt aStore isAggA aField idx aIndexAddr aIndex bnd aSlice aExtract aLen aBuiltin aCall isStatic eqAgg eqTy eqC ev_add ev_sub ev_mul ev_quo ev_rem ev_and ev_or ev_xor ev_andNot ev_shl ev_shr ev_eql ev_neq ev_lss ev_leq ev_gtr ev_geq ev_agg w64 wu32 wu8 ev_not ev_neg Cod.plain RCod.plain argM finM cold coldC coldR goInt intDec boolDec aggDec Weaker heapW lowA lowC Again slDec undef aBuildSlice setRows aAppend rowsOf aMakeSlice aClear aCopy softer_self softer_nil valsOf ev_min2 ev_max2 hotR_set hotR_append take_map_set irow_cold irow_mapM irow_mapMc irow_view irow_viewc irow_hotR irow_ren irow_renc irow_low WeakT heapT thOf ren renC AgainT NextF NextT fnDec cFn rNil selfLt natLt0 natLt1 getLastMap frame0 frame1 own0 own1 argG finG tau tauI tauO tauC bareA bareC bareH irow_tau irow_tauc irow_bare irow_flat irow_bareR ownA_nil ownT_nil ownA_c ownT_c ownA_s ownT_s takeMapLen footC plainA noId noIdC cloneF frame0F frame1F insertF replaceI replaceF cellDec rCell fpDec cFp rTwo deleteF allV_oA oneA_oA res_oA RunR RunE runFT footAt hotR_cat tmodN aEqH aSliceA frameN newA newC newH fqSz3 fqBy3 fqAg3 fqZe3 fqSl3 fqAr3 fqPl3 fqSz4 fqBy4 fqAg4 fqZe4 fqSl4 fqAr4 fqPl4 fqSz5 fqBy5 fqAg5 fqZe5 fqSl5 fqAr5 fqPl5 fqSz27 fqBy27 fqAg27 fqZe27 fqSl27 fqAr27 fqPl27 fqSz28 fqBy28 fqAg28 fqZe28 fqSl28 fqAr28 fqPl28 fqSz39 fqBy39 fqAg39 fqZe39 fqSl39 fqAr39 fqPl39 fqCv3x5 fqCv5x3 fqEb4 fqNb4 fqLn28 fqNe28 fqNn28 fqOe28 fqOn28 fqXe28 fqXn28 fqLn39 fqNe39 fqNn39 fqOe39 fqOn39 fqXe39 fqXn39 fqFm13 fqFi13 fqSz9 fqBy9 fqAg9 fqZe9 fqSl9 fqAr9 fqPl9 fqSz46 fqBy46 fqAg46 fqZe46 fqSl46 fqAr46 fqPl46 fqLt9 fqLn46 fqNe46 fqNn46 fqOe46 fqOn46 fqXe46 fqXn46 fqFm63 fqFi63 fqFm129 fqFi129 fqFm207 fqFi207 fqFm270 fqFi270 fqFm271 fqFi271 fqFm272 fqFi272 fqFm318 fqFm319 fqFi319 fqFm320 fqFi320 fqFm350 ev_eqlS ev_neqS
theorem k0 {H : Heap} {l : AVal} : AWp Tryz.prog 125 2828 (.region 0 f246o0 false) (fun e ρ' H' => e = .normal ∧ H' = H ∧ ∀ p ∈ wkE3 l, AI.look ρ' p.1 = p.2) (wkE3 l) H := by
 refine wpA_sound noOrc_ok fqMix _ _ _ _ (by kernel_rfl) ?_
 simp [f246o0, noOrc, wkE3]
theorem k27 {H : Heap} : AWp Tryz.prog 125 2828 (.region 27 f246o27 false) (fun e ρ' H' => e = .normal ∧ H' = H ∧ ∀ p ∈ [(6, AVal.v (.int .i64 0))], AI.look ρ' p.1 = p.2) [] H := by
 refine wpA_sound noOrc_ok fqMix _ _ _ _ (by kernel_rfl) ?_
 simp [f246o27, noOrc]
theorem w0_eq : w0c = .seq (.region 0 f246o0 false) (.seq (.block 0 (.loop wLpC)) (.seq (.region 27 f246o27 false) .ret)) := by kernel_rfl
theorem AWp.retG {nt n0 : Nat} {ρ : Env} {H : Heap} {Q : Post} (h : Q .ret ρ H) : AWp Tryz.prog nt n0 .ret Q ρ H := wpA_sound noOrc_ok fqMix _ _ _ _ rfl h
variable {bx : Nat → LO}
theorem endA {r : Int} {e : Exit} {ρ : Env} {H : Heap} (h : QA bx r e ρ H) : blockA 0 (thenA (fun ρ H => AWp Tryz.prog 125 2828 (.seq (.region 27 f246o27 false) .ret) (fun e2 ρ2 H2 => e2 = .ret ∧ Ent 2828 ([(6, .v (.int .i64 r))], mkH 2828 (SB bx)) (ρ2, H2)) ρ H) (fun e2 ρ2 H2 => e2 = .ret ∧ Ent 2828 ([(6, .v (.int .i64 r))], mkH 2828 (SB bx)) (ρ2, H2))) e ρ H := by
 by_cases hr : r = 0
 ·subst hr
  obtain ⟨rfl, hE⟩ := h.1 rfl
  simp only [blockA, if_true]
  exact AWp.ent (AWp.seqG k27 (AWp.retG ⟨rfl, Ent.refl _ _⟩)) hE
 ·obtain ⟨rfl, hE⟩ := h.2 hr
  exact ⟨rfl, hE⟩
theorem bodyA (hB : Bx bx) {l : AVal} {r : Int} {n : Nat} (hl : ∀ ρ H, Ent 2828 (wkE3 l, mkH 2828 (SB bx)) (ρ, H) → UnrA (fun Q ρ H => AWp Tryz.prog 125 2828 wLpC Q ρ H) (QA bx r) n ρ H) :
  InlOk Tryz.prog 246 (snapM [.ptr 2827 10 0 0, l, .v (.bool true)] 2828 (SB bx) (.v (.int .i64 r)) 2828 (SB bx)) := by
 refine snapE (code := w0c) Tryz.func246 rfl (by show 3 ≤ 125; decide) ?_
 refine snapR (ρ' := [(6, .v (.int .i64 r))]) (e := .ret) (.inl rfl) ⟨_, rfl, rfl⟩ ?_
 rw [w0_eq]
 refine AWp.seqG (ρ' := wkE3 l) k0 (AWp.seq (AWp.blockG (AWp.mono ?_ fun e ρ H h => endA (bx := bx) (r := r) h)))
 exact LoopA_sound (W := fun Q ρ H => AWp Tryz.prog 125 2828 wLpC Q ρ H) (fun _ _ _ h => h) (.inl ⟨n, hl _ _ (Ent.refl _ _)⟩)
theorem w246 (hB : Bx bx) (hM : Marks) {ps : List ByteArray} (hm : Marked ps) : InlOk Tryz.prog 246 (snapM [.ptr 2827 10 0 0, psA ps, .v (.bool true)] 2828 (SB bx) (.v (.int .i64 (walkF none 8 ps))) 2828 (SB bx)) :=
 bodyA hB fun ρ H he => loopA hB hM ps hm ρ H he
theorem w246n (hB : Bx bx) : InlOk Tryz.prog 246 (snapM [.ptr 2827 10 0 0, .v (.slice none 0 0), .v (.bool true)] 2828 (SB bx) (.v (.int .i64 0)) 2828 (SB bx)) :=
 bodyA hB (n := 1) fun ρ H he => by
  rw [UnrA]
  refine AWp.ent (AWp.seq (AWp.seqG k1n (AWp.condF rfl (AWp.exitG ?_)))) he
  exact ⟨fun _ => ⟨rfl, Ent.env (fun q hq => by cases hq)⟩, fun h => absurd rfl h⟩
end Go.Proofs.GD
/- A part of any function's code, run by the kernel, Ask's frames and all; regions with a call. -/
namespace Go.Proofs.GD
set_option linter.unusedSectionVars false
variable [Go.AI.Sym]
open Go Go.AI Go.RowKit
set_option maxRecDepth 100000
noncomputable def runG (f nt : Nat) (cat : FuncId → Sp) (c : Code) (ρ : Env) (T : TH) : RT := (compCT Tryz.prog tab4 (live f) 5000 f nt c 1).run (execW Tryz.prog tab4 cat live 5000 59) (execT Tryz.prog tab4 cat live 5000 59) ρ T
theorem partG {cat : FuncId → Sp} (hT : TabV Tryz.prog tab4 cat) {f nt n0 : Nat} {c : Code} {ρ ρ' : Env} {e n n' : Nat} {l l' : LS} {kk : List Nat} {bx : Nat → LO} (hok : okLS n l = true) (hx : obsB (runG f nt cat c ρ (mkT n l)) e n' l' kk bxK = some (ρ', bxO bx)) :
  AWp Tryz.prog nt n0 c (fun ex ρ2 H2 => exN ex = e ∧ Ent n0 (ρ', mkH n' (l' ++ bxL bx)) (ρ2, H2)) ρ (mkH n l) := by
 have hm : Tryz.prog.follows .mixedOrders = true := by kernel_rfl
 obtain ⟨ex, ρ2, T, h1, h2, rfl, h4, h5, h6⟩ := obsB_some hx
 obtain ⟨H', q1, q2⟩ := runT_sound (n0 := n0) hT hm (mkT_R hok) h1
 refine q2.ofX ⟨h2, ?_⟩
 refine Ent.trans (Ent.env fun p hp => ?_) (Ent.ofH (H' := mkH n' (l' ++ bxL bx)) (subB q1 h4 h5 h6).len fun hs => hs.sub (subB q1 h4 h5 h6))
 obtain ⟨k, _, rfl⟩ := List.mem_map.1 hp
 rfl
theorem AWp.seqE {nt n0 : Nat} {x y : Code} {Q : Post} {ρ ρ' : Env} {H H' : Heap} (h : AWp Tryz.prog nt n0 x (fun ex ρ2 H2 => exN ex = 0 ∧ Ent n0 (ρ', H') (ρ2, H2)) ρ H) (h2 : AWp Tryz.prog nt n0 y Q ρ' H') : AWp Tryz.prog nt n0 (.seq x y) Q ρ H := by
 refine AWp.seq (h.mono ?_)
 rintro e ρ2 H2 ⟨h1, hE⟩
 rw [exN_on h1]
 exact AWp.ent h2 hE
theorem AWp.retE {nt n0 : Nat} {x y : Code} {ρ ρ' : Env} {H H' : Heap} (h : AWp Tryz.prog nt n0 x (fun ex ρ2 H2 => exN ex = 1 ∧ Ent n0 (ρ', H') (ρ2, H2)) ρ H) : AWp Tryz.prog nt n0 (.seq x y) (fun ex ρ2 H2 => ex = .ret ∧ Ent n0 (ρ', H') (ρ2, H2)) ρ H := by
 refine AWp.seq (h.mono ?_)
 rintro e ρ2 H2 ⟨h1, hE⟩
 rw [exN_ret h1]
 exact ⟨rfl, hE⟩
theorem AWp.seqC {nt n0 : Nat} {x y : Code} {Q : Post} {ρ ρ' : Env} {H H' : Heap} (h : AWp Tryz.prog nt n0 x (fun e ρ2 H2 => e = .normal ∧ H2 = H' ∧ ∀ p ∈ ρ', AI.look ρ2 p.1 = p.2) ρ H) (h2 : AWp Tryz.prog nt n0 y Q ρ' H') : AWp Tryz.prog nt n0 (.seq x y) Q ρ H := by
 refine AWp.seq (h.mono ?_)
 rintro e ρ2 H2 ⟨rfl, rfl, h3⟩
 exact AWp.sub h3 h2
def addB (S : LS) (bx : Nat → LO) : LS := S ++ bxL bx
structure Bl (m : Nat) (bx : Nat → LO) : Prop where
 ok : ∀ i, okLO (bx i) = true
 low : ∀ i, lowLO m (bx i) = true
theorem addB_ok {m : Nat} {S : LS} {bx : Nat → LO} (hm : 2822 ≤ m) (h : okLS m S = true) (hB : ∀ i, okLO (bx i) = true) : okLS m (addB S bx) = true := by
 simp only [okLS, Bool.and_eq_true] at h ⊢
 refine ⟨h.1, ?_⟩
 rw [addB, List.all_append, h.2]
 simp only [bxL, List.all_cons, List.all_nil, hB, Bool.and_true, Bool.true_and, Bool.and_eq_true, decide_eq_true_eq]
 omega
theorem addB_low {m : Nat} {S : LS} {bx : Nat → LO} (hm : 2822 ≤ m) (h : lowLS m S = true) (hB : ∀ i, lowLO m (bx i) = true) : lowLS m (addB S bx) = true := by
 unfold lowLS at h ⊢
 rw [addB, List.all_append, h]
 simp only [bxL, List.all_cons, List.all_nil, hB, Bool.and_true, Bool.true_and, Bool.and_eq_true, decide_eq_true_eq]
 omega
theorem putLH_keep : ∀ {l : LS} {H : Heap} {i : Nat}, i ∉ l.map Prod.fst → (putLH l H)[i]? = H[i]?
 | [], _, _, _ => rfl
 | q :: l, H, i, h => by
  simp only [List.map_cons, List.mem_cons, not_or] at h
  show (putLH l (H.set q.1 _))[i]? = _
  rw [putLH_keep h.2, List.getElem?_set_ne (fun e => h.1 e.symm)]
theorem putLH_at : ∀ {l : LS} {H : Heap}, (l.map Prod.fst).Nodup → (∀ p ∈ l, p.1 < H.length) → ∀ p ∈ l, (putLH l H)[p.1]? = some (absO (toO p.2))
 | [], _, _, _, p, hp => by cases hp
 | q :: l, H, hn, hl, p, hp => by
  simp only [List.map_cons, List.nodup_cons] at hn
  show (putLH l (H.set q.1 _))[p.1]? = _
  rcases List.mem_cons.1 hp with rfl | hp
  ·rw [putLH_keep hn.1, List.getElem?_set_self (hl p (by simp))]
  ·exact putLH_at hn.2 (fun r hr => by simpa using hl r (by simp [hr])) p hp
theorem mkH_at {n : Nat} {l : LS} (hn : (l.map Prod.fst).Nodup) (hok : okLS n l = true) {p : Nat × LO} (hp : p ∈ l) : (mkH n l)[p.1]? = some (absO (toO p.2)) := by
 simp only [okLS, Bool.and_eq_true, List.all_eq_true, decide_eq_true_eq] at hok
 exact putLH_at hn (fun q hq => by simpa using (hok.2 q hq).1) p hp
theorem mkH_sub {n : Nat} {l l2 : LS} (hn : (l2.map Prod.fst).Nodup) (hok : okLS n l2 = true) (h : ∀ p ∈ l, p ∈ l2) : SubH (mkH n l) (mkH n l2) := by
 refine putLH_sub ⟨by rw [mkH_len]; simp, fun id q hq => ?_⟩ fun p hp => mkH_at hn hok (h p hp)
 rw [List.getElem?_replicate] at hq
 split at hq <;> cases hq
end Go.Proofs.GD
