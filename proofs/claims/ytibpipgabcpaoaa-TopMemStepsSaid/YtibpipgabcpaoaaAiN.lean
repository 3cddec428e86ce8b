/- Regions, in whatever order. -/
import Derived.Test.YtibpipgabcpaoaaAiM
namespace Go.AI
set_option linter.unusedSimpArgs false
set_option linter.unusedVariables false
open Go.RowKit
def runL (P : Program) (C : Orc) (nt : Nat) (ops : Array Oper) : List Oper → Env × Heap → Option (Env × Heap)
 | [], s => some s
 | o :: l, s => match step1 P C nt ops o s with
  | some s' => runL P C nt ops l s'
  | none => none
def tmpsOf (xs : Array Operand) : List Tmp := xs.toList.filterMap fun | .tmp t => some t | _ => none
def readsOf (ops : Array Oper) (o : Oper) : List Tmp :=
 tmpsOf o.op.operands ++ match o.guard with
  | none => []
  | some (j, _) => ((ops[j]?).bind (·.dst)).toList
def clash (ops : Array Oper) (o p : Oper) : Bool :=
 match o.dst with
 | some t => (readsOf ops p).contains t || p.dst == some t
 | none => false
def indep (inl : FuncId → Bool) (ops : Array Oper) (o p : Oper) : Bool :=
 !clash ops o p && !clash ops p o && !(hk inl o == 2 && hk inl p != 0) && !(hk inl p == 2 && hk inl o != 0)
def bits (acc : List Nat) (es : List Edge) : Nat :=
 es.foldl (fun s e => if Region.binds .any e then s ||| 2 ^ e.on ||| acc.getD e.on 0 else s) 0
def befs : List Oper → List Nat → List Nat
 | [], acc => acc
 | o :: r, acc => befs r (acc ++ [bits acc o.after.toList])
def raceFree (inl : FuncId → Bool) (ops : Array Oper) : Bool :=
 let B := befs ops.toList []
 (ops.toList.zipIdx.all fun (o, i) => o.after.all fun e => !Region.binds .any e || decide (e.on < i)) &&
 (List.range ops.size).all fun j => (List.range j).all fun i => indep inl ops (ops.getD i default) (ops.getD j default) || (B.getD j 0).testBit i
theorem bits_mem {acc : List Nat} {es : List Edge} {k : Nat} (h : (bits acc es).testBit k = true) : ∃ e ∈ es, Region.binds .any e = true ∧ (e.on = k ∨ (acc.getD e.on 0).testBit k = true) := by
 unfold bits at h
 have key : ∀ (es : List Edge) (s : Nat), (es.foldl (fun s e => if Region.binds .any e then s ||| 2 ^ e.on ||| acc.getD e.on 0 else s) s).testBit k = true → s.testBit k = true ∨ ∃ e ∈ es, Region.binds .any e = true ∧ (e.on = k ∨ (acc.getD e.on 0).testBit k = true) := by
  intro es
  induction es with
  | nil => intro s h; exact .inl h
  | cons e es ih =>
   intro s h
   rw [List.foldl_cons] at h
   rcases ih _ h with h | ⟨e', he', h'⟩
   ·split at h
    ·rename_i hb
     simp only [Nat.testBit_or, Bool.or_eq_true] at h
     rcases h with (h | h) | h
     ·exact .inl h
     ·refine .inr ⟨e, by simp, hb, .inl ?_⟩
      rw [Nat.testBit_two_pow] at h
      simpa using h
     ·exact .inr ⟨e, by simp, hb, .inr h⟩
    ·exact .inl h
   ·exact .inr ⟨e', by simp [he'], h'⟩
 rcases key es 0 h with h | h
 ·simp at h
 ·exact h
theorem befs_pre : ∀ (l : List Oper) (acc : List Nat), ∃ more, befs l acc = acc ++ more
 | [], acc => ⟨[], by simp [befs]⟩
 | o :: r, acc => by
  obtain ⟨more, h⟩ := befs_pre r (acc ++ [bits acc o.after.toList])
  exact ⟨[bits acc o.after.toList] ++ more, by simp [befs, h]⟩
theorem befs_get : ∀ (l : List Oper) (acc : List Nat) (j : Nat) (o : Oper), l[j]? = some o → ∃ pre : List Nat, (∃ more, befs l acc = pre ++ more) ∧ pre.length = acc.length + j ∧ (befs l acc).getD (acc.length + j) 0 = bits pre o.after.toList
 | [], acc, j, o, h => by simp at h
 | p :: r, acc, 0, o, h => by
  simp at h; subst h
  obtain ⟨more, hm⟩ := befs_pre r (acc ++ [bits acc p.after.toList])
  refine ⟨acc, ⟨[bits acc p.after.toList] ++ more, by simp [befs, hm]⟩, rfl, ?_⟩
  simp [befs, hm]
 | p :: r, acc, j + 1, o, h => by
  obtain ⟨pre, h1, h2, h3⟩ := befs_get r (acc ++ [bits acc p.after.toList]) j o (by simpa using h)
  refine ⟨pre, by simpa [befs] using h1, by simp at h2; omega, ?_⟩
  simp only [befs]
  have : acc.length + (j + 1) = (acc ++ [bits acc p.after.toList]).length + j := by simp; omega
  rw [this]; exact h3
theorem bef_step {l : List Oper} {j k : Nat} {o : Oper} (ho : l[j]? = some o) (h : ((befs l []).getD j 0).testBit k = true) :
  ∃ e ∈ o.after.toList, Region.binds .any e = true ∧ (e.on = k ∨ ((befs l []).getD e.on 0).testBit k = true) := by
 obtain ⟨pre, ⟨more, h1⟩, h2, h3⟩ := befs_get l [] j o ho
 simp only [List.length_nil, Nat.zero_add] at h2 h3
 rw [h3] at h
 obtain ⟨e, he, hb, hk⟩ := bits_mem h
 refine ⟨e, he, hb, ?_⟩
 rcases hk with hk | hk
 ·exact .inl hk
 ·right
  rw [h1]
  by_cases hlt : e.on < pre.length
  ·rw [List.getD_eq_getElem?_getD, List.getElem?_append_left hlt, ← List.getD_eq_getElem?_getD]; exact hk
  ·rw [List.getD_eq_getElem?_getD, List.getElem?_eq_none (by omega)] at hk
   simp at hk
section
variable {P : Program} {C : Orc}
theorem map_ev_congr {e e' : AEv} {xs : Array Operand} (h : ∀ x ∈ xs, e x = e' x) : xs.toList.map e = xs.toList.map e' :=
 List.map_congr_left fun x hx => h x (Array.mem_toList_iff.1 hx)
theorem astepE_congr {e e' : AEv} {o : Oper} {H : Heap} (h : ∀ x ∈ o.op.operands, e x = e' x) : astepE P C e o H = astepE P C e' o H := by
  unfold astepE
  cases hop : o.op <;> simp only [hop, Op.operands] at h ⊢
  case move x => rw [h x (by simp)]
  case assign x => rw [h x (by simp)]
  case binOp op t x y u => rw [h x (by simp), h y (by simp)]
  case unOp op t x => rw [h x (by simp)]
  case convert s d x => rw [h x (by simp)]
  case extract x i => rw [h x (by simp)]
  case makeInterface t x => rw [h x (by simp)]
  case box t x => rw [h x (by simp)]
  case build t ps =>
    have : (ps.toList.map fun p => (p.1, e p.2)) = ps.toList.map fun p => (p.1, e' p.2) :=
      List.map_congr_left fun p hp => by rw [h p.2 (by simpa using ⟨p.1, by simpa using hp⟩)]
    rw [this]
  case buildSlice t len ps =>
    have : (ps.toList.map fun p => (p.1, e p.2)) = ps.toList.map fun p => (p.1, e' p.2) :=
      List.map_congr_left fun p hp => by rw [h p.2 (by simpa using ⟨p.1, by simpa using hp⟩)]
    rw [this]
  case load t x => rw [h x (by simp)]
  case store t x y => rw [h x (by simp), h y (by simp)]
  case fieldAddr s x f => rw [h x (by simp)]
  case field s x f => rw [h x (by simp)]
  case indexAddr t x i => rw [h x (by simp), h i (by simp)]
  case index t x i => rw [h x (by simp), h i (by simp)]
  case slice t x lo hi mx =>
    have h1 : lo.map e = lo.map e' := by cases lo with
      | none => rfl
      | some y => simp only [Option.map_some]; rw [h y (by simp)]
    have h2 : hi.map e = hi.map e' := by cases hi with
      | none => rfl
      | some y => simp only [Option.map_some]; rw [h y (by simp)]
    have h3 : mx.map e = mx.map e' := by cases mx with
      | none => rfl
      | some y => simp only [Option.map_some]; rw [h y (by simp)]
    rw [h x (by simp), h1, h2, h3]
  case makeSlice t l c => rw [h l (by simp), h c (by simp)]
  case nilCheck x => rw [h x (by simp)]
  case makeMap t r => cases r <;> rfl
  case lookup t m k ok => rw [h m (by simp), h k (by simp)]
  case mapUpdate t m k x => rw [h m (by simp), h k (by simp), h x (by simp)]
  case range t x => rw [h x (by simp)]
  case entry x => rw [h x (by simp)]
  case makeFunc fn first caps =>
    cases fn with
    | func f =>
      simp only
      rw [map_ev_congr (fun x hx => h x (by simp [hx]))]
    | method n =>
      simp only
      split
      · rename_i x hf hc
        rw [h x (by have : x ∈ first.toList := by rw [hf]; simp
                    simp [Array.mem_toList_iff.1 this])]
      · rfl
    | _ => rfl
  case call c =>
    cases hc : c.callee with
    | builtin b =>
      simp only
      rw [map_ev_congr (fun x hx => h x (by simp [Call.operands, hx]))]
    | value f =>
      simp only
      rw [map_ev_congr (fun x hx => h x (by simp [Call.operands, hx])), h f (by simp [Call.operands, hc])]
    | invoke r m =>
      simp only
      rw [map_ev_congr (fun x hx => h x (by simp [Call.operands, hx])), h r (by simp [Call.operands, hc])]
theorem astep_congr {g : Bool} {e e' : AEv} {o : Oper} {H : Heap} (h : ∀ x ∈ o.op.operands, e x = e' x) : astep P C g e o H = astep P C g e' o H := by
 unfold astep
 split
 ·rename_i c a b hop
  rw [hop] at h
  simp only [Op.operands] at h
  rw [h c (by simp), h a (by simp), h b (by simp)]
 ·exact astepE_congr fun x hx => by rw [h x hx]
theorem astepE_none {e : AEv} {o : Oper} {H H' : Heap} {av : AVal} (hh : hk C.inl o = 0) (h : astepE P C e o H = some (av, H')) (H2 : Heap) : astepE P C e o H2 = some (av, H2) := by
 have hh0 := hh
 unfold astepE at h ⊢
 cases hop : o.op <;> simp only [hop, hk, reduceCtorEq] at h hh ⊢
 all_goals first
  |(simp only [Option.map_eq_some_iff, Prod.mk.injEq] at h; obtain ⟨_, hr, rfl, _⟩ := h; simp only [hr, Option.map_some]; done)
  |(simp only [Option.some.injEq, Prod.mk.injEq] at h; simp [h.1]; done)
  |(cases hh; done)
  | skip
 case binOp op t x y u =>
  split at h
  ·rename_i q hq
   simp only [Option.some.injEq, Prod.mk.injEq] at h
   obtain ⟨rfl, _⟩ := h
   rfl
  ·split at h
   ·exfalso
    simp only [Option.map_eq_some_iff, Prod.mk.injEq] at h
    obtain ⟨_, hr, _⟩ := h
    unfold aEqH at hr
    split at hr
    ·simp at hh
    ·cases hr
   ·cases h
 case slice t x lo hi mx =>
  split at h
  ·rename_i q hq
   simp only [Option.some.injEq, Prod.mk.injEq] at h
   obtain ⟨rfl, _⟩ := h
   rfl
  ·split at h
   ·simp at hh
   ·cases h
 case unOp op t x =>
  split at h
  ·simp only [Option.map_eq_some_iff, Prod.mk.injEq] at h; obtain ⟨_, hr, rfl, _⟩ := h; simp only [hr, Option.map_some]
  ·cases h
 case convert s d x =>
  split at h
  ·simp only [Option.map_eq_some_iff, Prod.mk.injEq] at h; obtain ⟨_, hr, rfl, _⟩ := h; simp only [hr, Option.map_some]
  ·cases h
 case nilCheck x => split at h <;> simp at h <;> first | (simp [h.1]; done) | simp [h]
 case makeFunc fn first caps =>
  cases fn <;> simp at h
  ·simp [h]
  ·split at h
   ·rename_i x hf hc
    split at h
    ·rename_i t a he
     simp at h
     simp [hf, hc, he, h]
    ·cases h
   ·cases h
 case call c =>
  cases hc : c.callee with
  | builtin b =>
   simp only [hc] at h
   exact (aBuiltin_quiet (hk_builtin (inl := C.inl) hop hc (by rw [hh0]; decide)) h).2 H2
  | value f =>
   simp only [hc] at hh
   cases f <;> simp only at hh <;> (split at hh <;> cases hh)
  | invoke r m => simp [hk, hop, hc] at hh0
theorem astep_none {g : Bool} {e : AEv} {o : Oper} {H H' : Heap} {av : AVal} (hh : hk C.inl o = 0) (h : astep P C g e o H = some (av, H')) (H2 : Heap) : astep P C g e o H2 = some (av, H2) := by
 unfold astep at h ⊢
 split at h
 ·simp only [Option.map_eq_some_iff, Prod.mk.injEq] at h
  obtain ⟨_, hr, rfl, _⟩ := h
  simp only [hr, Option.map_some]
 ·exact astepE_none hh h H2
theorem astep_fail {g : Bool} {e : AEv} {o : Oper} {H : Heap} (hh : hk C.inl o = 0) (h : astep P C g e o H = none) (H2 : Heap) : astep P C g e o H2 = none := by
 cases hc : astep P C g e o H2 with
 | none => rfl
 | some r => rw [astep_none (av := r.1) (H' := r.2) hh hc H] at h; cases h
end
end Go.AI
