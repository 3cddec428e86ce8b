/- Slices of slices of one's own; results that are known a little less. -/
import Derived.Test.YtdakclpneghkmaaGreatDoorL11
set_option linter.unusedSimpArgs false
set_option linter.unusedVariables false
namespace Go.AI
set_option linter.unusedSectionVars false
variable [Sym]
open Go.RowKit
def oA (id sz n : Nat) : AVal := if n = 0 then .esl else .osl id sz 0 n n
theorem thOf_range {n0 m id : Nat} (h : id < n0 + m) : thOf n0 (List.range' n0 m) id = id := by
 unfold thOf
 split
 ·rfl
 ·rename_i h2
  rw [List.getElem?_range' (by omega)]
  simp; omega
mutual
theorem ren_id {n0 m : Nat} : ∀ a : AVal, lowA (n0 + m) a = true → ren n0 (List.range' n0 m) a = a
 | .ptr id _ _ _, h => by simp only [lowA, decide_eq_true_eq] at h; simp only [ren, thOf_range h]
 | .osl id _ _ _ _, h => by simp only [lowA, decide_eq_true_eq] at h; simp only [ren, thOf_range h]
 | .xsl id _ _ _ _, h => by simp only [lowA, decide_eq_true_eq] at h; simp only [ren, thOf_range h]
 | .agg cs, h => by simp only [lowA] at h; simp only [ren, renC_id cs h]
 | .tup cs, h => by simp only [lowA] at h; simp only [ren, renC_id cs h]
 | .fn _ cs, h => by simp only [lowA] at h; simp only [ren, renC_id cs h]
 | .when _ a, h => by simp only [lowA] at h; simp only [ren, ren_id a h]
 | .ifc _ a, h => by simp only [lowA] at h; simp only [ren, ren_id a h]
 | .meth _ _, _ => rfl
 | .junk, _ => rfl
 | .anyb, _ => rfl
 | .anyi _, _ => rfl
 | .str _, _ => rfl
 | .v _, _ => rfl
 | .fptr _ _, _ => rfl
 | .fsl _ _ _, _ => rfl
 | .esl, _ => rfl
theorem renC_id {n0 m : Nat} : ∀ l : List AVal, lowC (n0 + m) l = true → renC n0 (List.range' n0 m) l = l
 | [], _ => rfl
 | a :: r, h => by
  simp only [lowC, Bool.and_eq_true] at h
  simp only [renC, ren_id a h.1, renC_id r h.2]
end
section
variable {P : Program} {C : Orc} {nt : Nat} {ρ : Env} {H : Heap}
end
inductive Sof : AVal → AVal → Prop
 | refl (a : AVal) : Sof a a
 | esl {o : Bool} {sz : Nat} : Sof (.fsl o sz []) .esl
 | nil {o : Bool} {sz : Nat} : Sof (.fsl o sz []) (.v (.slice none 0 0))
 | agg {rs xs : List AVal} (hl : rs.length = xs.length) (h : ∀ (j : Nat) (r x : AVal), rs[j]? = some r → xs[j]? = some x → Sof r x) : Sof (.agg rs) (.agg xs)
 | tup {rs xs : List AVal} (hl : rs.length = xs.length) (h : ∀ (j : Nat) (r x : AVal), rs[j]? = some r → xs[j]? = some x → Sof r x) : Sof (.tup rs) (.tup xs)
 | fsl {o : Bool} {sz : Nat} {rs xs : List Row} (hl : rs.length = xs.length) (hs : ∀ r ∈ rs, r.length = sz) (h : ∀ (i : Nat) (r x : Row), rs[i]? = some r → xs[i]? = some x → ∀ (j : Nat) (a b : AVal), r[j]? = some a → x[j]? = some b → Sof a b) : Sof (.fsl o sz rs) (.fsl o sz xs)
theorem Sof.known {r x : AVal} (h : Sof r x) : ∀ {β : Nat → Nat} {ok : Bool → Nat → Prop} {w : World} {n : Nat} {v : Value}, R β ok w n x v → R β ok w n r v := by
 induction h with
 | refl => intro β ok w n v h; exact h
 | esl => intro β ok w n v h; cases h; exact .fsl0
 | nil => intro β ok w n v h; rw [h.v_inv]; exact .fsl0
 | @agg rs xs hl h ih =>
  intro β ok w n v hx
  cases hx with
  | agg hl2 hr =>
   refine .agg (hl.trans hl2) fun j a ha => ?_
   have hj : j < xs.length := by have := (List.getElem?_eq_some_iff.1 ha).1; omega
   exact ih j a xs[j] ha (List.getElem?_eq_getElem hj) (hr j _ (List.getElem?_eq_getElem hj))
 | @tup rs xs hl h ih =>
  intro β ok w n v hx
  cases hx with
  | tup hl2 hr =>
   refine .tup (hl.trans hl2) fun j a ha => ?_
   have hj : j < xs.length := by have := (List.getElem?_eq_some_iff.1 ha).1; omega
   exact ih j a xs[j] ha (List.getElem?_eq_getElem hj) (hr j _ (List.getElem?_eq_getElem hj))
 | @fsl o sz rs xs hl hs h ih =>
  intro β ok w n v hx
  cases hx with
  | @fsl _ _ _ _ b off cap x' hl2 hs2 hb hc hr =>
   rw [← hl]
   refine .fsl x' (by omega) hs (fun ⟨r, hr, hne⟩ => hb (by
    have hz : 0 < sz := by rw [← hs r hr]; exact List.length_pos_iff.2 hne
    have h00 : 0 < xs.length := by have := List.length_pos_of_mem hr; omega
    exact ⟨xs[0], List.getElem_mem h00, List.length_pos_iff.1 (by rw [hs2 _ (List.getElem_mem h00)]; exact hz)⟩)) (fun i j hi hj => hc i j (by omega) hj) fun i r hi j a ha => ?_
   have hil : i < xs.length := by have := (List.getElem?_eq_some_iff.1 hi).1; omega
   have hjl : j < xs[i].length := by
    rw [hs2 _ (List.getElem_mem hil)]
    have h1 := (List.getElem?_eq_some_iff.1 ha).1
    rwa [hs r (List.mem_of_getElem? hi)] at h1
   exact ih i r xs[i] hi (List.getElem?_eq_getElem hil) j a xs[i][j] ha (List.getElem?_eq_getElem hjl) (hr i _ (List.getElem?_eq_getElem hil) j _ (List.getElem?_eq_getElem hjl))
  | fsl0 =>
   have : rs = [] := List.length_eq_zero_iff.1 hl
   subst this
   exact .fsl0
section
variable {P : Program} {f : FuncId} {fn : Func} {c : Code}
variable {α₁ α₂ α₃ α₄ : Type}
end
-- slices of slices: as they come, some of them copied; all copied
section
variable {α : Type} {sz c n d : Nat} {g : α → Row} {L : List (List α)}
theorem allV_oA {id k : Nat} {r : Row} : allV (oA id sz k :: r) = none := by unfold oA; split <;> rfl
theorem oneA_oA {id k : Nat} : oneA (oA id sz k) = true := by unfold oA; split <;> rfl
theorem res_oA {b : Bool} {id k : Nat} : res b (oA id sz k) = oA id sz k := by unfold oA; split <;> rfl
end
end Go.AI
/- An own list becomes frozen data in the cell that holds it. -/
namespace Go.AI
set_option linter.unusedSectionVars false
variable [Sym]
set_option linter.unusedSimpArgs false
set_option linter.unusedVariables false
open Go.RowKit
section
variable {base : Nat} {w0 : World} {β : Nat → Nat} {fz : Nat → Prop} {H : Heap} {w : World} {P : Program} {n0 : Nat}
theorem HSim.froze (hs : HSim base w0 β fz H w) {n sz kc len : Nat} {rows : List Row} (hob : obj H n = some (sz, rows)) (hlen : len = rows.length) (hflat : ∀ r ∈ rows, r.all (lowA 0) = true) {v : Value} {fz' : Nat → Prop} (hf : ∀ b, fz b → fz' b) (hn : fz' (β n)) {m : Nat}
  (h : R β (okOf base fz) w H.length (.osl n sz 0 len kc) v) : R β (okOf base fz') w m (.fsl true sz rows) v := by
 subst hlen
 cases h with
 | @osl _ _ _ _ _ _ a cap h hl hk ha =>
  by_cases h0 : rows = []
  ·subst h0; exact .fsl0
  ·have hpos : 0 < rows.length := List.length_pos_iff.2 h0
   rcases ha with ha | ⟨rfl, _⟩
   ·omega
   ·obtain ⟨cs, e, g1, g2, g3, g4, g5⟩ := hs.cells hob
    rw [Nat.zero_mul]
    refine .fsl (fun i j => cs[i * sz + j]?.getD undef) (by omega) g2 (fun _ => ⟨hn, fun _ => (hs.own n ⟨_, obj_some hob⟩).1⟩) ?_ ?_
    ·intro i j hi hj
     have h1 : i * sz + j < rows.length * sz := row_lt hi hj
     have h2 : i * sz + j < cs.size := by omega
     rw [Nat.zero_add]
     exact ⟨by simp [World.cell?, g1, h2], g4 (i * sz + j) _ (by simp [h2])⟩
    ·intro i r hi j c hj
     have hr := g5 i r hi j c hj
     have hlow := hflat r (List.mem_of_getElem? hi)
     rw [List.all_eq_true] at hlow
     have := low_R hr (hlow c (List.mem_of_getElem? hj))
     exact this.mono (Nat.le_refl 0) (fun _ h => absurd h (Nat.not_lt_zero _)) (fun _ b hb => ⟨hf b hb.1, hb.2⟩) (fun _ _ _ => rfl) (Shapes.refl w)
theorem hsim_ent {βe : Nat → Nat} {fze : Nat → Prop} {we : World} {x r : AVal} {v : Value} {H' : Heap} (hs : HSim base w0 β fz H w) (he : Ext n0 βe fze we H.length β fz w) (hR : AI.R β (okOf base fz) w H.length x v)
  (h : Ent n0 ([(0, r)], H') ([(0, x)], H)) : ∃ β' fz', HSim base w0 β' fz' H' w ∧ Ext n0 βe fze we H'.length β' fz' w ∧ AI.R β' (okOf base fz') w H'.length r v := by
 have hsim : Sim ⟨1, n0, βe, fze, we⟩ base w0 β fz [(0, x)] H { tmps := #[v], defers := [] } w := by
  refine ⟨hs, rfl, rfl, he, fun t => ?_⟩
  cases t with
  | zero => simpa [look] using hR
  | succ t => simp only [look]; exact .junk
 obtain ⟨β', fz', hw⟩ := h _ _ _ _ _ _ _ rfl hsim
 have := hw.env 0
 exact ⟨_, _, hw.heap, hw.ext, by simpa [look] using this⟩
end
section
variable {P : Program} {f : FuncId} {fn : Func} {code : Code} {α α₁ α₂ α₃ ρ : Type}
def BodyE (P : Program) (fn : Func) (c : Code) (args : Row) (H : Heap) (r : AVal) (H' : Heap) : Prop :=
 args.length ≤ fn.ntmps ∧ AWp P fn.ntmps H.length c (retA P fn fun x H2 => Ent H.length ([(0, r)], H') ([(0, x)], H2)) (envOf 0 args) H
theorem inl_canonE (hf : P.funcs[f]? = some fn) (hb : fn.body = some code) {m : Row → Heap → Option (AVal × Heap)}
  (h : ∀ args H r H', m args H = some (r, H') → ∃ args', Canon args args' ∧ BodyE P fn code args' H r H') : InlOk P f m := by
 intro args H r H' hr base w0 β fz w vals hs hargs
 obtain ⟨args', hc, h1, h2⟩ := h args H r H' hr
 refine .of hf hb (body_calls hf hb h1 h2 ⟨fn.ntmps, H.length, β, fz, w⟩ rfl rfl hs (Ext.refl _ _ _ _) (hc.argsX hargs) _ ?_)
 rintro x v β' fz' H2 w' hx hs' he hR
 obtain ⟨β2, fz2, q1, q2, q3⟩ := hsim_ent hs' he hR hx
 exact ⟨v, β2, fz2, rfl, q1, q2, q3⟩
def NextE {α : Type} (n0 : Nat) (st : Nat → α → Env × Heap) (inv : Nat → α → Prop) (k : Nat) (ρ : Env) (H : Heap) : Prop := ∃ a, inv k a ∧ Ent n0 (st k a) (ρ, H)
@[congr] theorem NextE_congr {α : Type} {n0 : Nat} {st : Nat → α → Env × Heap} {inv : Nat → α → Prop} {k : Nat} {ρ ρ' : Env} {H H' : Heap} (h1 : ρ = ρ') (h2 : H = H') : NextE n0 st inv k ρ H = NextE n0 st inv k ρ' H' := by rw [h1, h2]
end
end Go.AI
/- A call that is handed no object, and answers new objects that may hold new frozen data. -/
namespace Go.AI
set_option linter.unusedSectionVars false
variable [Sym]
set_option linter.unusedSimpArgs false
set_option linter.unusedVariables false
open Go.RowKit
mutual
def newA : AVal → Bool
 | .v _ => true
 | .ptr _ _ _ _ => true
 | .osl _ _ _ _ _ => true
 | .xsl _ _ _ _ _ => true
 | .esl => true
 | .junk => true
 | .anyb => true
 | .anyi _ => true
 | .str _ => true
 | .agg cs => newC cs
 | .tup vs => newC vs
 | .fsl o _ rows => (o || rows.isEmpty) && hotR rows
 | _ => false
def newC : List AVal → Bool
 | [] => true
 | a :: r => newA a && newC r
end
def newH : Heap → Bool
 | [] => true
 | some o :: r => (o.2.all fun row => row.all newA) && newH r
 | none :: r => newH r
section
variable {base : Nat} {w0 : World} {β : Nat → Nat} {fz : Nat → Prop} {H : Heap} {w : World} {P : Program}
def frameN (m : Row → Heap → Option (AVal × Heap)) (args : Row) (H : Heap) : Option (AVal × Heap) :=
 match m (args.map fun a => cold (view H depthV a)) [] with
 | some (r, H1) => if newA r && newH H1 then some (tau [] H.length r, H ++ H1.map (tauO [] H.length)) else none
 | none => none
end
end Go.AI
/- A cell, or a slot, known a little less. -/
namespace Go.AI
set_option linter.unusedSectionVars false
variable [Sym]
set_option linter.unusedSimpArgs false
set_option linter.unusedVariables false
open Go.RowKit
section
variable {n0 : Nat} {H : Heap}
theorem Ent.cell {ρ : Env} {M i j szM : Nat} {R : List Row} {row : Row} {a r : AVal} (hM : obj H M = some (szM, R)) (hr : R[i]? = some row) (hc : row[j]? = some a) (hs : Sof r a) :
  Ent n0 (ρ, H.set M (some (szM, R.set i (row.set j r)))) (ρ, H) := by
 intro f base w0 β fz act w hn0 h
 obtain ⟨hM1, hM2⟩ := obj_live hM
 have hlt : M < H.length := (List.getElem?_eq_some_iff.1 hM1).1
 have hold : ∀ k x, (H.set M (some (szM, R.set i (row.set j r))))[k]? = some (some x) → Live H k := by
  intro k x hk
  by_cases e : k = M
  ·subst e; exact ⟨_, hM1⟩
  ·rw [List.getElem?_set_ne (fun q => e q.symm)] at hk; exact ⟨_, hk⟩
 refine ⟨β, fz, ⟨⟨?_, ?_, ?_, h.heap.fzlt, h.heap.below, h.heap.base⟩, h.defers, h.size, ?_, ?_⟩⟩
 ·intro k sz rws hk
  simp only [List.length_set]
  by_cases e : k = M
  ·subst e
   rw [List.getElem?_set_self hlt] at hk
   simp only [Option.some.injEq, Prod.mk.injEq] at hk
   obtain ⟨rfl, rfl⟩ := hk
   rw [OSim, if_neg hM2]
   obtain ⟨cs, e, g1, g2, g3, g4, g5⟩ := h.heap.cells0 hM1 hM2
   have hi : i < R.length := (List.getElem?_eq_some_iff.1 hr).1
   have hrl := g2 row (List.mem_of_getElem? hr)
   refine ⟨cs, e, g1, ?_, by simpa using g3, g4, ?_⟩
   ·intro r' hr'
    rcases List.mem_or_eq_of_mem_set hr' with q | q
    ·exact g2 r' q
    ·rw [q]; simpa using hrl
   ·intro i' r' hi' j' c hj'
    by_cases hii : i' = i
    ·subst hii
     rw [List.getElem?_set_self hi] at hi'
     cases hi'
     by_cases hjj : j' = j
     ·subst hjj
      have hj : j' < row.length := (List.getElem?_eq_some_iff.1 hc).1
      rw [List.getElem?_set_self hj] at hj'
      cases hj'
      exact hs.known (g5 i' row hr j' _ hc)
     ·rw [List.getElem?_set_ne (fun q => hjj q.symm)] at hj'
      exact g5 i' row hr j' c hj'
    ·rw [List.getElem?_set_ne (fun q => hii q.symm)] at hi'
     exact g5 i' r' hi' j' c hj'
  ·rw [List.getElem?_set_ne (fun q => e q.symm)] at hk
   exact h.heap.objs' k sz rws hk
 ·exact fun a b ⟨x, hx⟩ ⟨y, hy⟩ => h.heap.inj a b (hold _ _ hx) (hold _ _ hy)
 ·exact fun k ⟨x, hx⟩ => h.heap.own k (hold _ _ hx)
 ·have := h.ext; simpa using this
 ·intro t; have := h.env t; simpa using this
def Lss (a r : AVal) : Prop := ∀ {β : Nat → Nat} {ok : Bool → Nat → Prop} {w : World} {n : Nat} {v : Value}, (∀ o b, ok o b → ok false b) → R β ok w n a v → R β ok w n r v
theorem Lss.refl (a : AVal) : Lss a a := fun _ h => h
theorem Lss.cold (a : AVal) : Lss a (cold a) := fun hok h => cold_R h hok
theorem Ent.slotL {ρ : Env} {t : Nat} {r : AVal} (hs : Lss (look ρ t) r) : Ent n0 ((t, r) :: ρ, H) (ρ, H) := by
 intro f base w0 β fz act w hn0 h
 refine ⟨β, fz, ⟨h.heap, h.defers, h.size, h.ext, fun s => ?_⟩⟩
 simp only [look]
 split
 ·rename_i e; subst e; exact hs (fun o b hb => ⟨hb.1, fun q => by cases q⟩) (h.env s)
 ·exact h.env s
end
end Go.AI
