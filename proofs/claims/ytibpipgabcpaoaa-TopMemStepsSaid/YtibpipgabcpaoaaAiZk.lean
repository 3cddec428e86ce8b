/- Objects known otherwise; a map shown with its stamps. -/
import Derived.Test.YtibpipgabcpaoaaGD
import Derived.Test.YtibpipgabcpaoaaAiOs
namespace Go.AI
set_option linter.unusedSimpArgs false
set_option linter.unusedVariables false
open Go.RowKit
section
variable {n0 : Nat} {H : Heap} {base : Nat} {w0 : World} {β : Nat → Nat} {fz : Nat → Prop} {w : World}
theorem HSim.reobj (hs : HSim base w0 β fz H w) {id sz : Nat} {o : Nat × List Row} {rows : List Row} (hid : H[id]? = some (some o)) (hO : OSim base β fz w H.length id o.1 o.2 → OSim base β fz w H.length id sz rows) :
  HSim base w0 β fz (H.set id (some (sz, rows))) w ∧ Ext H.length β fz w (H.set id (some (sz, rows))).length β fz w := by
 have hlt : id < H.length := (List.getElem?_eq_some_iff.1 hid).1
 have live : ∀ k, Live (H.set id (some (sz, rows))) k → Live H k := fun k hk => Live.set hk ⟨_, hid⟩
 refine ⟨⟨fun k s2 r2 hk => ?_, fun a b ha hb => hs.inj a b (live a ha) (live b hb), fun k hk => hs.own k (live k hk), hs.fzlt, hs.below, hs.base⟩, ⟨by simp, fun _ _ => rfl, fun _ h => h, fun _ _ => rfl, Shapes.refl _⟩⟩
 rw [List.length_set]
 by_cases hki : k = id
 ·subst hki
  rw [List.getElem?_set_self hlt] at hk
  simp only [Option.some.injEq, Prod.mk.injEq] at hk
  obtain ⟨rfl, rfl⟩ := hk
  exact hO (hs.objs' k _ _ hid)
 ·rw [List.getElem?_set_ne (by omega)] at hk
  exact hs.objs' k s2 r2 hk
theorem Ent.reobj {ρ : Env} {id sz : Nat} {o : Nat × List Row} {rows : List Row} (hid : H[id]? = some (some o)) (hO : ∀ (base : Nat) (β : Nat → Nat) (fz : Nat → Prop) (w : World), OSim base β fz w H.length id o.1 o.2 → OSim base β fz w H.length id sz rows) :
  Ent n0 (ρ, H.set id (some (sz, rows))) (ρ, H) := by
 intro f base w0 β fz act w hn0 h
 obtain ⟨q1, q2⟩ := h.heap.reobj hid (hO base β fz w)
 exact ⟨β, fz, q1, h.defers, h.size, h.ext.trans q2, fun t => (h.env t).ext q2⟩
theorem Ent.kill {ρ : Env} (id : Nat) : Ent n0 (ρ, H.set id none) (ρ, H) := by
 intro f base w0 β fz act w hn0 h
 obtain ⟨q1, q2⟩ := h.heap.kill id
 exact ⟨β, fz, q1, h.defers, h.size, h.ext.trans q2, fun t => (h.env t).ext q2⟩
theorem Ent.trunc {ρ : Env} {id sz : Nat} {L M : List Row} (hid : H[id]? = some (some (sz, L ++ M))) (h00 : sz ≠ 0) : Ent n0 (ρ, H.set id (some (sz, L))) (ρ, H) := by
 intro f base w0 β fz act w hn0 h
 obtain ⟨q1, q2⟩ := h.heap.trunc hid h00
 exact ⟨β, fz, q1, h.defers, h.size, h.ext.trans q2, fun t => (h.env t).ext q2⟩
theorem Lss.cap {id sz s len kc kc' : Nat} (h1 : len ≤ kc') (h2 : kc' ≤ kc) : Lss (.osl id sz s len kc) (.osl id sz s len kc') := by
 intro β ok w n v _ h
 cases h with
 | osl k1 k2 k3 k4 => exact .osl k1 h1 (Nat.le_trans h2 k3) k4
theorem Ent.perm {ρ : Env} {id : Nat} {rows rows' : List Row} (hid : H[id]? = some (some (0, rows))) (hp : rows.Perm rows') (h2 : ∀ r ∈ rows, r.length = 2) : Ent n0 (ρ, H.set id (some (0, rows'))) (ρ, H) := by
 refine Ent.reobj hid fun base β fz w h => ?_
 rw [OSim, if_pos rfl] at h ⊢
 rcases h with ⟨rs, q1, q2⟩ | ⟨o, xs, _, _, _, r, rs, e, hr⟩
 ·exact .inl ⟨rs, q1.trans hp, q2⟩
 ·exact absurd (h2 r (by simp only at e; rw [e]; exact List.mem_cons_self)) hr
def stampL (rs : List Row) (bs : List Int) : List Row := List.zipWith (fun r b => r ++ [.v (.int .i64 b)]) rs bs
theorem stampL_get {rs : List Row} {bs : List Int} {i : Nat} (h1 : i < rs.length) (h2 : i < bs.length) : (stampL rs bs)[i]? = some (rs[i] ++ [.v (.int .i64 bs[i])]) := by
 unfold stampL
 rw [List.getElem?_zipWith, List.getElem?_eq_getElem h1, List.getElem?_eq_getElem h2]
theorem stampL_inv {rs : List Row} {bs : List Int} {i : Nat} {r : Row} (h : (stampL rs bs)[i]? = some r) : ∃ q b, rs[i]? = some q ∧ bs[i]? = some b ∧ r = q ++ [.v (.int .i64 b)] := by
 unfold stampL at h
 rw [List.getElem?_zipWith_eq_some] at h
 obtain ⟨q, b, h1, h2, h3⟩ := h
 exact ⟨q, b, h1, h2, h3.symm⟩
theorem OSim.expose {n id : Nat} {rows : List Row} (h2 : ∀ r ∈ rows, r.length = 2) (h : OSim base β fz w n id 0 rows) :
  ∃ (c : Int) (rs : List Row) (bs : List Int), rs.Perm rows ∧ bs.length = rs.length ∧ bs.Nodup ∧ (∀ b ∈ bs, b < c) ∧ OSim base β fz w n id 0 ([.v (.int .i64 c)] :: stampL rs bs) := by
 rw [OSim, if_pos rfl] at h
 rcases h with ⟨rs, q1, es, clock, g1, g2, g3, g4⟩ | ⟨o, xs, _, _, _, r, rs, e, hr⟩
 ·refine ⟨clock, rs, es.toList.map fun e => (e.born : Int), q1, by simp [g2], ?_, ?_, ?_⟩
  ·have := g3.nodup
   rw [List.nodup_iff_pairwise_ne, List.pairwise_map] at this ⊢
   exact this.imp fun h e => h (by exact_mod_cast e)
  ·intro b hb
   obtain ⟨e, he, rfl⟩ := List.mem_map.1 hb
   have := g3.lt e he
   omega
  ·rw [OSim, if_pos rfl]
   refine .inr ⟨.map es clock, _, g1, .inl ⟨es, clock, rfl, g3, rfl⟩, ⟨?_, ?_⟩, _, _, rfl, by simp⟩
   ·simp [stampL, g2]
   ·intro i r x hi hx
    cases i with
    | zero =>
     simp only [List.getElem?_cons_zero, Option.some.injEq] at hi hx
     subst hi hx
     refine ⟨rfl, fun j a v ha hv => ?_⟩
     match j, ha, hv with
     | 0, ha, hv => simp at ha hv; subst ha hv; exact .v
     | j + 1, ha, hv => simp at ha
    | succ i =>
     simp only [List.getElem?_cons_succ] at hi hx
     obtain ⟨q, b, k1, k2, rfl⟩ := stampL_inv hi
     rw [List.getElem?_map, Array.getElem?_toList, Option.map_eq_some_iff] at hx k2
     obtain ⟨en, he, rfl⟩ := hx
     obtain ⟨en', he', rfl⟩ := k2
     rw [he] at he'
     cases he'
     obtain ⟨en2, a, e1, e2, e3⟩ := g4 i q k1
     rw [he] at e1
     cases e1
     subst e2
     refine ⟨rfl, fun j a' v ha hv => ?_⟩
     match j, ha, hv with
     | 0, ha, hv => simp at ha hv; subst ha hv; exact .v
     | 1, ha, hv => simp at ha hv; subst ha hv; exact e3
     | 2, ha, hv => simp at ha hv; subst ha hv; exact .v
     | j + 3, ha, hv => simp at ha
 ·exact absurd (h2 r (by rw [e]; exact List.mem_cons_self)) hr
theorem OSim.hide {n id : Nat} {c : Int} {rs : List Row} {bs : List Int} (hl : bs.length = rs.length) (h2 : ∀ r ∈ rs, ∃ k a, r = [.v k, a]) (h : OSim base β fz w n id 0 ([.v (.int .i64 c)] :: stampL rs bs)) :
  OSim base β fz w n id 0 rs := by
 rw [OSim, if_pos rfl] at h ⊢
 have h' := h.walked (r := [.v (.int .i64 c)]) List.mem_cons_self (by simp)
 obtain ⟨o, xs, k1, k2, ⟨k3, k4⟩, _⟩ := h'
 rcases k2 with ⟨es, clock, rfl, hb, rfl⟩ | ⟨m, si, st, seen, rfl, rfl⟩
 ·have hsz : es.size = rs.length := by simpa [stampL, hl] using k3
  refine .inl ⟨rs, .refl _, es, clock, k1, hsz, hb, fun i r hi => ?_⟩
  have hir := (List.getElem?_eq_some_iff.1 hi).1
  have hie : i < es.size := by omega
  have hib : i < bs.length := by omega
  obtain ⟨kk, aa, rfl⟩ := h2 r (List.mem_of_getElem? hi)
  have e1 : ([AVal.v (.int .i64 c)] :: stampL rs bs)[i + 1]? = some [.v kk, aa, .v (.int .i64 bs[i])] := by
   rw [List.getElem?_cons_succ, stampL_get hir hib, (List.getElem?_eq_some_iff.1 hi).2]; rfl
  have e2 : ([Value.int .i64 (clock : Int)] :: es.toList.map fun e => [e.key, e.val, .int .i64 (e.born : Int)])[i + 1]? = some [es[i].key, es[i].val, .int .i64 (es[i].born : Int)] := by
   simp [hie]
  obtain ⟨_, q⟩ := k4 _ _ _ e1 e2
  refine ⟨es[i], aa, Array.getElem?_eq_getElem hie, ?_, q 1 _ _ rfl rfl⟩
  have := (q 0 _ _ rfl rfl).v_inv
  rw [this]
 ·have := (k4 0 _ _ rfl rfl).1
  simp at this
theorem Ent.hide {ρ : Env} {id : Nat} {c : Int} {rs : List Row} {bs : List Int} (hid : H[id]? = some (some (0, [.v (.int .i64 c)] :: stampL rs bs))) (hl : bs.length = rs.length) (h2 : ∀ r ∈ rs, ∃ k a, r = [.v k, a]) :
  Ent n0 (ρ, H.set id (some (0, rs))) (ρ, H) := Ent.reobj hid fun _ _ _ _ h => OSim.hide hl h2 h
end
section
variable {P : Program} {fn : Func} {code : Code}
theorem bodyX_of {C : Orc} {args : Row} {H H' : Heap} {r : AVal} {id : Nat} {rows : List Row} (hid : H[id]? = some (some (0, rows))) (h2 : ∀ r ∈ rows, r.length = 2)
  (hC : OrcOk P C) (hm : P.follows .mixedOrders = true) (hrf : codeRF C code = true) (hn : args.length ≤ fn.ntmps)
  (h : ∀ C' : Orc, C'.pure = C.pure → C'.inl = C.inl → C'.inline = C.inline → C'.dyn = C.dyn → C'.fp = C.fp → C'.alt = C.alt → C'.rd = C.rd → C'.cl = C.cl →
   ∀ (c : Int) (rs : List Row) (bs : List Int), rs.Perm rows → bs.length = rs.length → bs.Nodup → (∀ b ∈ bs, b < c) →
   wpA P C' fn.ntmps H.length code (retA P fn fun x H2 => Ent H.length ([(0, r)], H') ([(0, x)], H2)) (envOf 0 args) (H.set id (some (0, [.v (.int .i64 c)] :: stampL rs bs)))) : BodyE P fn code args H r H' := by
 refine ⟨hn, fun f base w0 β fz a w hnt hn0 hs => ?_⟩
 have hO := hs.heap.objs' id 0 rows hid
 obtain ⟨c, rs, bs, q1, q2, q3, q4, q5⟩ := OSim.expose h2 hO
 obtain ⟨k1, k2⟩ := hs.heap.reobj hid (sz := 0) (rows := [.v (.int .i64 c)] :: stampL rs bs) fun _ => q5
 exact wpA_sound hC hm _ _ _ _ hrf (h C rfl rfl rfl rfl rfl rfl rfl rfl c rs bs q1 q2 q3 q4) f base w0 β fz a w hnt hn0 ⟨k1, hs.defers, hs.size, hs.ext.trans k2, fun t => (hs.env t).ext k2⟩
end
end Go.AI
