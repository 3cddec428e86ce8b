/- Package space: what lies where. Package space: here, oldest. Package space: room, Free, ask. Package space: ask. Package space: add. Package space: let's closure, and what slices.DeleteFunc makes of it. Package space: slices.DeleteFunc of pages. Package space: let. Package space: spaces and their entries. Package space: span, may, shared. Package space: may. Package space: shared. -/
import Derived.Test.YtibpipgabcpaoaaFacts
import Derived.Test.YtibpipgabcpaoaaAiZk
namespace Go.Proofs.Ytibpipgabcpaoaa
open Go.AI
set_option linter.unusedSimpArgs false
set_option linter.unusedVariables false
section
set_option maxHeartbeats 2000000
set_option maxRecDepth 100000
set_option linter.unusedSimpArgs false
set_option linter.unusedVariables false
attribute [local simp] wpA wpX RunA RunD runF foot footP footB idsA bare apart runL step1 gsel_f gsel_t gsel_s res_same res_and1 res_and2 res_and3 res_and4 res_and5 res_and6 res_false res_true res_v res_ptr res_fptr res_osl res_xsl soft aAppendZ aCap ovlI ovlJ res_fsl res_esl res_agg res_tup res_fn res_junk res_anyb aPick hk imp_left iteV dstOk guardOk astep astepE AI.ev AI.look AI.put envOf aBox cellsOf allOne allOneA oneA Value.oneCell' Value.cells newObj' aFieldAddr aLoad obj readAt thenA blockA condA retA resA tupA view hot hotC hotR depthV cAgg cInt cBool mkAgg allV aAlloc aBuild fillA writeAt aStore isAggA aField idx aIndexAddr aIndex bnd aSlice aExtract aLen aBuiltin aCall isStatic eqAgg eqTy eqC ev_add ev_sub ev_mul ev_quo ev_rem ev_and ev_or ev_xor ev_andNot ev_shl ev_shr ev_eql ev_neq ev_lss ev_leq ev_gtr ev_geq ev_agg w64 wu32 wu8 ev_not ev_neg Cod.plain RCod.plain argM finM cold coldC coldR goInt intDec boolDec aggDec Weaker heapW lowA lowC Again slDec undef aBuildSlice setRows aAppend rowsOf aMakeSlice aClear aCopyX aCopy softer_self softer_nil valsOf ev_min2 ev_max2 hotR_set hotR_append take_map_set irow_cold irow_mapM irow_mapMc irow_view irow_viewc irow_hotR irow_ren irow_renc irow_low WeakT heapT thOf ren renC AgainT NextF NextT fnDec cFn rNil selfLt natLt0 natLt1 getLastMap frame0 frame1 own0 own1 argG finG tau tauI tauO tauC bareA bareC bareH irow_tau irow_tauc irow_bare irow_flat irow_bareR ownA_nil ownT_nil ownA_c ownT_c ownA_s ownT_s takeMapLen footC plainA noId noIdC cloneF frame0F frame1F insertF replaceI replaceF cellDec rCell fpDec cFp rTwo deleteF allV_oA oneA_oA res_oA RunR RunE runFT footAt hotR_cat tmodN aEqH aSliceA fxSz3 fxBy3 fxAg3 fxZe3 fxSl3 fxSz4 fxAg4 fxSz5 fxBy5 fxAg5 fxZe5 fxSl22 fxAr22 fxSl23 fxAr23 fxAg24 fxSz31 fxAg31 fxZe31 fxSl31 fxAr31 fxSz34 fxAg34 fxAr35 fxSz37 fxAg37 fxZe37 fxFi37x0 fxFi37x1 fxFi37x2 fxPl37 fxSz38 fxAg38 fxZe38 fxAr38 fxSz47 fxAg47 fxZe47 fxFi47x0 fxPl47 fxZe51 fxFi51x0 fxFi51x1 fxPl51 fxAg55 fxSz56 fxAg56 fxSl56 fxAr56 fxZe58 fxFi58x0 fxFi58x1 fxFi58x2 fxFi58x3 fxFi58x4 fxPl58 fxSz62 fxAg62 fxZe62 fxFi62x0 fxFi62x1 fxFi62x2 fxFi62x3 fxPl62 fxZe65 fxSl67 fxAr67 fxSz72 fxAg72 fxZe72 fxSl72 fxAr72 fxPl72 fxSz74 fxZe74 fxFi74x0 fxFi74x1 fxFi74x2 fxFi74x3 fxPl74 fxSz75 fxBy75 fxAg75 fxZe75 fxSz79 fxAg79 fxZe79 fxFi79x0 fxFi79x1 fxPl79 fxEq47 fxCv3x5 fxCv3x34 fxCv3x70 fxCv3x100 fxCv5x34 fxCv34x3 fxCv34x5 fxCv34x112 fxCv70x3 fxCv100x34 fxCv112x3 fxLn31 fxLn56 fxFm4 fxFm5 fxFi5 fxFm6 fxFm7 fxFm8 fxFm9 fxFi9 fxFm10 fxFm11 fxFm12 fxFm13 fxFm14 fxFm15 fxFm16 fxFm17 fxFi17 fxFm18 fxFm19 fxFi19 fxFm20 fxFm21 fxFm22 fxFm23 fxFm24 fxFi24 fxFm25 fxFi25 fxFm26 fxFm27 fxFm28 fxFi28 fxFm29 fxFm30 fxFm31 fxFm32 fxFm33 fxFi33 fxFm34 fxFi34 fxFm35 fxFm36 fxFm37 fxFm38 fxFm39 fxFi39 fxFm40 fxFi40 fxFm41 fxFi41 fxFm42 fxFm45 fxFi45 fxFm46 fxFi46 fxFm47 fxFm48 fxFm49 fxFi49 fxFm50 fxFm51 fxFm52 fxFi52 fxFm64 fxFi64 fxFm87 fxFm88 fxFm89
section
structure Pg where
 data : List Int
 users : Int
 here : Bool
 asked : Int
def bRow (d : List Int) : Row := d.map fun b => .v (.int .u8 b)
def pgRow (q : Pg) : Row := bRow q.data ++ [.v (.int .i64 q.users), .v (.bool q.here), .v (.int .i64 q.asked)]
def byteD : AVal → Option Int
 | .v (.int .u8 b) => some b
 | _ => none
theorem bytes_row (d : List Int) : (bRow d).mapM byteD = some d := by
 unfold bRow
 induction d with
 | nil => rfl
 | cons a d ih => simp [List.mapM_cons, byteD, ih]
theorem bRow_inj {a b : List Int} (h : bRow a = bRow b) : a = b := by
 have := bytes_row a
 rw [h, bytes_row] at this
 exact (Option.some.inj this).symm
theorem bRow_len (d : List Int) : (bRow d).length = d.length := by simp [bRow]
theorem pgRow_len {q : Pg} (h : q.data.length = 16) : (pgRow q).length = 19 := by simp [pgRow, bRow, h]
theorem pgRow_inj {a b : Pg} (ha : a.data.length = 16) (hb : b.data.length = 16) (h : pgRow a = pgRow b) : a = b := by
 unfold pgRow at h
 obtain ⟨h1, h2⟩ := List.append_inj h (by simp [bRow, ha, hb])
 simp at h2
 obtain ⟨d, u, e, k⟩ := a
 obtain ⟨d', u', e', k'⟩ := b
 have := bRow_inj h1
 simp_all
theorem pgRow_get {q : Pg} (h : q.data.length = 16) : (pgRow q)[16]? = some (.v (.int .i64 q.users)) ∧ (pgRow q)[17]? = some (.v (.bool q.here)) ∧ (pgRow q)[18]? = some (.v (.int .i64 q.asked)) := by
 unfold pgRow
 refine ⟨?_, ?_, ?_⟩ <;> rw [List.getElem?_append_right (by simp [bRow, h])] <;> simp [bRow, h]
theorem pgRow_byte {q : Pg} {k : Nat} (hk : k < q.data.length) : (pgRow q)[k]? = some (.v (.int .u8 q.data[k])) := by
 unfold pgRow
 rw [List.getElem?_append_left (by simpa [bRow] using hk)]
 simp [bRow, hk]
theorem writeAt_one : ∀ (r : Row) (i : Nat) (v : AVal), writeAt r i [v] = r.set i v
 | [], i, v => by cases i <;> rfl
 | x :: r, 0, v => by cases r <;> rfl
 | x :: r, i + 1, v => by show x :: writeAt r i [v] = _; rw [writeAt_one r i v]; rfl
theorem pg16 {q : Pg} (h : q.data.length = 16) : (pgRow q)[16]? = some (.v (.int .i64 q.users)) := (pgRow_get h).1
theorem pg17 {q : Pg} (h : q.data.length = 16) : (pgRow q)[17]? = some (.v (.bool q.here)) := (pgRow_get h).2.1
theorem pg18 {q : Pg} (h : q.data.length = 16) : (pgRow q)[18]? = some (.v (.int .i64 q.asked)) := (pgRow_get h).2.2
theorem pg16' {q : Pg} (h : q.data.length = 16) (hi : 16 < (pgRow q).length) : (pgRow q)[16] = .v (.int .i64 q.users) := (List.getElem?_eq_some_iff.1 (pg16 h)).2
theorem pg17' {q : Pg} (h : q.data.length = 16) (hi : 17 < (pgRow q).length) : (pgRow q)[17] = .v (.bool q.here) := (List.getElem?_eq_some_iff.1 (pg17 h)).2
theorem pg18' {q : Pg} (h : q.data.length = 16) (hi : 18 < (pgRow q).length) : (pgRow q)[18] = .v (.int .i64 q.asked) := (List.getElem?_eq_some_iff.1 (pg18 h)).2
theorem ww16 {q : Pg} (h : q.data.length = 16) (u : Int) : writeAt (pgRow q) 16 [.v (.int .i64 u)] = pgRow { q with users := u } := by
 rw [writeAt_one]
 unfold pgRow
 rw [List.set_append, if_neg (by simp [bRow, h])]
 simp [bRow, h]
theorem ww17 {q : Pg} (h : q.data.length = 16) (u : Bool) : writeAt (pgRow q) 17 [.v (.bool u)] = pgRow { q with here := u } := by
 rw [writeAt_one]
 unfold pgRow
 rw [List.set_append, if_neg (by simp [bRow, h])]
 simp [bRow, h]
theorem ww18 {q : Pg} (h : q.data.length = 16) (u : Int) : writeAt (pgRow q) 18 [.v (.int .i64 u)] = pgRow { q with asked := u } := by
 rw [writeAt_one]
 unfold pgRow
 rw [List.set_append, if_neg (by simp [bRow, h])]
 simp [bRow, h]
theorem wwd {q : Pg} {k : Nat} (hk : k < q.data.length) (u : Int) : writeAt (pgRow q) k [.v (.int .u8 u)] = pgRow { q with data := q.data.set k u } := by
 rw [writeAt_one]
 unfold pgRow
 rw [List.set_append, if_pos (by simpa [bRow] using hk)]
 simp [bRow, List.map_set]
theorem pgRow_take {q : Pg} (h : q.data.length = 16) : (pgRow q).take 16 = bRow q.data := by
 unfold pgRow
 rw [List.take_append_of_le_length (by simp [bRow, h]), List.take_of_length_le (by simp [bRow, h])]
def getK {α β : Type} [DecidableEq α] (k : α) : List (α × β) → Option β
 | [] => none
 | x :: l => if x.1 = k then some x.2 else getK k l
section
variable {α β : Type} [DecidableEq α]
theorem getK_none {k : α} : ∀ {l : List (α × β)}, getK k l = none ↔ k ∉ l.map (·.1)
 | [] => by simp [getK]
 | x :: l => by
  unfold getK
  by_cases h : x.1 = k
  ·rw [if_pos h]; simp [h]
  ·rw [if_neg h, getK_none]; simp; intro _ e; exact h e.symm
theorem getK_mem {k : α} {v : β} : ∀ {l : List (α × β)}, getK k l = some v → (k, v) ∈ l
 | [], h => by simp [getK] at h
 | x :: l, h => by
  unfold getK at h
  by_cases e : x.1 = k
  ·rw [if_pos e] at h; cases h; subst e; simp
  ·rw [if_neg e] at h; exact List.mem_cons_of_mem _ (getK_mem h)
theorem getK_of {k : α} {v : β} : ∀ {l : List (α × β)}, (l.map (·.1)).Nodup → (k, v) ∈ l → getK k l = some v
 | [], _, h => by simp at h
 | x :: l, hn, h => by
  rw [List.map_cons, List.nodup_cons] at hn
  unfold getK
  rcases List.mem_cons.1 h with rfl | h
  ·rw [if_pos rfl]
  ·rw [if_neg, getK_of hn.2 h]
   intro e
   exact hn.1 (List.mem_map.2 ⟨_, h, e.symm⟩)
theorem getK_map {γ : Type} {k : α} (f : β → γ) : ∀ (l : List (α × β)), getK k (l.map fun x => (x.1, f x.2)) = (getK k l).map f
 | [] => rfl
 | x :: l => by simp only [List.map_cons, getK]; split <;> simp [getK_map f l]
def setK (k : α) (v : β) (l : List (α × β)) : List (α × β) := l.map fun x => if x.1 = k then (x.1, v) else x
theorem setK_keys {k : α} {v : β} (l : List (α × β)) : (setK k v l).map (·.1) = l.map (·.1) := by
 unfold setK
 rw [List.map_map]
 apply List.map_congr_left
 intro x _
 simp only [Function.comp]
 split <;> rfl
theorem setK_len {k : α} {v : β} (l : List (α × β)) : (setK k v l).length = l.length := by simp [setK]
theorem getK_setK {k k' : α} {v : β} : ∀ (l : List (α × β)), getK k' (setK k v l) = if k' = k then (getK k l).map (fun _ => v) else getK k' l
 | [] => by simp [setK, getK]
 | x :: l => by
  have ih := getK_setK (k := k) (k' := k') (v := v) l
  unfold setK at ih ⊢
  rw [List.map_cons]
  by_cases h : x.1 = k
  ·rw [if_pos h]
   simp only [getK]
   by_cases h2 : k' = k
   ·subst h2; simp [h]
   ·simp only [if_neg h2] at ih ⊢
    rw [if_neg (fun e => h2 (e.symm.trans h)), if_neg (fun e => h2 (e.symm.trans h))]
    exact ih
  ·rw [if_neg h]
   simp only [getK]
   by_cases h2 : k' = k
   ·subst h2
    rw [if_neg h]
    simp only [if_true, if_neg h] at ih ⊢
    exact ih
   ·simp only [if_neg h2] at ih ⊢
    rw [ih]
theorem mem_setK {k : α} {v : β} {l : List (α × β)} {x : α × β} (h : x ∈ setK k v l) : (x = (k, v) ∧ k ∈ l.map (·.1)) ∨ (x ∈ l ∧ x.1 ≠ k) := by
 unfold setK at h
 obtain ⟨y, hy, e⟩ := List.mem_map.1 h
 by_cases q : y.1 = k
 ·rw [if_pos q] at e; subst e; exact .inl ⟨by rw [q], List.mem_map.2 ⟨_, hy, q⟩⟩
 ·rw [if_neg q] at e; subst e; exact .inr ⟨hy, q⟩
theorem setK_setK {k : α} {v v' : β} (l : List (α × β)) : setK k v' (setK k v l) = setK k v' l := by
 unfold setK
 rw [List.map_map]
 apply List.map_congr_left
 intro x _
 simp only [Function.comp]
 by_cases h : x.1 = k
 ·simp [h]
 ·simp [h]
def delK (k : α) (l : List (α × β)) : List (α × β) := l.filter fun x => x.1 ≠ k
theorem getK_delK {k k' : α} : ∀ (l : List (α × β)), getK k' (delK k l) = if k' = k then none else getK k' l
 | [] => by simp [delK, getK]
 | x :: l => by
  have ih := getK_delK (k := k) (k' := k') l
  unfold delK at ih ⊢
  rw [List.filter_cons]
  by_cases h : x.1 = k
  ·simp only [h, ne_eq, not_true_eq_false, decide_false, Bool.false_eq_true, if_false]
   rw [ih]
   by_cases h2 : k' = k
   ·simp [h2]
   ·simp only [if_neg h2, getK]; rw [if_neg (fun e => h2 (e.symm.trans h))]
  ·simp only [ne_eq, h, not_false_eq_true, decide_true, if_true, getK]
   rw [ih]
   by_cases h2 : k' = k
   ·subst h2; simp [h]
   ·simp [h2]
end
structure Lo where
 fr : Int
 sl : Int
 ck : Int
 lid : Option Nat
 sid : Nat
 pgs : List (Nat × Pg)
def Lo.pv (L : Lo) : AVal := match L.lid with
 | none => .v (.slice none 0 0)
 | some l => .osl l 1 0 L.pgs.length L.pgs.length
def Lo.row (L : Lo) : Row := [.v (.int .i64 L.fr), .v (.int .i64 L.sl), .v (.int .i64 L.ck), L.pv, .ptr L.sid 0 0 0]
def pidRow (p : Nat) : Row := [.ptr p 19 0 0]
def Lo.lrows (L : Lo) : List Row := L.pgs.map fun x => pidRow x.1
def Lo.cell (L : Lo) (mid i : Nat) : Option (Nat × List Row) :=
 if i = mid then some (5, [L.row]) else if L.lid = some i then some (1, L.lrows) else (getK i L.pgs).map fun q => (19, [pgRow q])
def wr (H : Heap) (mid : Nat) (L : Lo) : Heap := H.mapIdx fun i o => match L.cell mid i with
 | some x => some x
 | none => o
structure Wf (mid : Nat) (L : Lo) : Prop where
 nil : L.lid = none → L.pgs = []
 nd : (L.pgs.map (·.1)).Nodup
 d : ∀ x ∈ L.pgs, x.2.data.length = 16
 hm : mid ∉ L.pgs.map (·.1)
 hl : ∀ l, L.lid = some l → l ≠ mid ∧ l ∉ L.pgs.map (·.1)
 le : L.pgs.length ≤ 1000 ∧ 4 ≤ L.fr ∧ L.fr ≤ 64 ∧ 0 ≤ L.sl ∧ L.sl ≤ 64
structure St (H : Heap) (mid : Nat) (L : Lo) : Prop where
 wf : Wf mid L
 at' : ∀ i x, L.cell mid i = some x → H[i]? = some (some x)
theorem pid_inj : ∀ {a b : List (Nat × Pg)}, a.map (fun x => pidRow x.1) = b.map (fun x => pidRow x.1) → a.map (·.1) = b.map (·.1)
 | [], [], _ => rfl
 | [], _ :: _, h => by simp at h
 | _ :: _, [], h => by simp at h
 | x :: a, y :: b, h => by
  simp only [List.map_cons, List.cons.injEq, pidRow, AVal.ptr.injEq, and_true] at h
  rw [List.map_cons, List.map_cons, h.1, pid_inj h.2]
theorem alist_eq {α β : Type} [DecidableEq α] : ∀ {a b : List (α × β)}, a.map (·.1) = b.map (·.1) → (a.map (·.1)).Nodup → (∀ k, getK k a = getK k b) → a = b
 | [], [], _, _, _ => rfl
 | [], _ :: _, h, _, _ => by simp at h
 | _ :: _, [], h, _, _ => by simp at h
 |(k, v) :: a, (k', v') :: b, h, hn, hg => by
  simp only [List.map_cons, List.cons.injEq] at h
  obtain ⟨rfl, h⟩ := h
  rw [List.map_cons, List.nodup_cons] at hn
  have h1 := hg k
  simp only [getK, if_true, Option.some.injEq] at h1
  subst h1
  rw [alist_eq h hn.2 fun j => ?_]
  have h2 := hg j
  simp only [getK] at h2
  by_cases e : k = j
  ·subst e
   rw [getK_none.2 hn.1, getK_none.2 (by rw [← h]; exact hn.1)]
  ·simpa [e] using h2
theorem Wf.cell_pg {mid : Nat} {L : Lo} (w : Wf mid L) {p : Nat} {q : Pg} (h : getK p L.pgs = some q) : L.cell mid p = some (19, [pgRow q]) := by
 have hm : p ∈ L.pgs.map (·.1) := List.mem_map.2 ⟨_, getK_mem h, rfl⟩
 unfold Lo.cell
 rw [if_neg, if_neg, h]; rfl
 ·intro e; exact (w.hl p e).2 hm
 ·rintro rfl; exact w.hm hm
theorem Wf.cell_l {mid l : Nat} {L : Lo} (w : Wf mid L) (h : L.lid = some l) : L.cell mid l = some (1, L.lrows) := by
 unfold Lo.cell
 rw [if_neg (w.hl l h).1, if_pos h]
theorem cell_m {mid : Nat} {L : Lo} : L.cell mid mid = some (5, [L.row]) := by
 unfold Lo.cell; rw [if_pos rfl]
theorem St.pg {H : Heap} {mid : Nat} {L : Lo} (s : St H mid L) {p : Nat} {q : Pg} (h : getK p L.pgs = some q) : H[p]? = some (some (19, [pgRow q])) ∧ q.data.length = 16 :=
 ⟨s.at' _ _ (s.wf.cell_pg h), s.wf.d _ (getK_mem h)⟩
theorem St.mem {H : Heap} {mid : Nat} {L : Lo} (s : St H mid L) : H[mid]? = some (some (5, [L.row])) := s.at' _ _ cell_m
theorem St.cases {H : Heap} {mid : Nat} {L : Lo} (s : St H mid L) : (L.lid = none ∧ L.pv = .v (.slice none 0 0) ∧ L.pgs = []) ∨ ∃ l, L.lid = some l ∧ L.pv = .osl l 1 0 L.pgs.length L.pgs.length ∧ H[l]? = some (some (1, L.lrows)) := by
 cases h : L.lid with
 | none => exact .inl ⟨rfl, by simp [Lo.pv, h], s.wf.nil h⟩
 | some l => exact .inr ⟨l, rfl, by simp [Lo.pv, h], s.at' _ _ (s.wf.cell_l h)⟩
theorem st_uniq {H : Heap} {mid : Nat} {L L' : Lo} (s : St H mid L) (s' : St H mid L') : L = L' := by
 have hm := s.mem
 rw [s'.mem] at hm
 simp only [Option.some.injEq, Prod.mk.injEq, true_and, List.cons.injEq, and_true, Lo.row] at hm
 obtain ⟨h1, h2, h3, h4, h5⟩ := hm
 simp only [AVal.v.injEq, Value.int.injEq, true_and, AVal.ptr.injEq, and_true] at h1 h2 h3 h5
 have key : L.lid = L'.lid ∧ L.pgs = L'.pgs := by
  rcases s.cases with ⟨a1, a2, a3⟩ | ⟨l, a1, a2, a3⟩ <;> rcases s'.cases with ⟨b1, b2, b3⟩ | ⟨l', b1, b2, b3⟩
  ·exact ⟨by rw [a1, b1], by rw [a3, b3]⟩
  ·rw [a2, b2] at h4; cases h4
  ·rw [a2, b2] at h4; cases h4
  ·rw [a2, b2] at h4
   simp only [AVal.osl.injEq, true_and] at h4
   obtain ⟨rfl, _, _⟩ := h4
   rw [a3] at b3
   simp only [Option.some.injEq, Prod.mk.injEq, true_and, Lo.lrows] at b3
   have hk := pid_inj b3
   refine ⟨by rw [a1, b1], alist_eq hk s.wf.nd fun k => ?_⟩
   cases e1 : getK k L.pgs with
   | none =>
    have := getK_none.1 e1
    rw [hk] at this
    rw [getK_none.2 this]
   | some q =>
    cases e2 : getK k L'.pgs with
    | none =>
     have := getK_none.1 e2
     rw [← hk] at this
     rw [getK_none.2 this] at e1; cases e1
    | some q' =>
     obtain ⟨c1, c2⟩ := s.pg e1
     obtain ⟨d1, d2⟩ := s'.pg e2
     rw [c1] at d1
     simp only [Option.some.injEq, Prod.mk.injEq, true_and, List.cons.injEq, and_true] at d1
     rw [pgRow_inj c2 d2 d1]
 obtain ⟨fr, sl, ck, lid, sid, pgs⟩ := L
 obtain ⟨fr', sl', ck', lid', sid', pgs'⟩ := L'
 simp only at h1 h2 h3 h5 key
 rw [h1, h2, h3, h5, key.1, key.2]
noncomputable def stAt (H : Heap) (mid : Nat) : Option Lo := @dite _ (∃ L, St H mid L) (Classical.propDecidable _) (fun h => some h.choose) fun _ => none
theorem stAt_iff {H : Heap} {mid : Nat} {L : Lo} : stAt H mid = some L ↔ St H mid L := by
 unfold stAt
 constructor
 ·intro h
  split at h
  ·rename_i hx
   cases h
   exact hx.choose_spec
  ·cases h
 ·intro h
  rw [dif_pos ⟨L, h⟩]
  exact congrArg some (st_uniq (Exists.choose_spec ⟨L, h⟩) h)
theorem wr_len {H : Heap} {mid : Nat} {L : Lo} : (wr H mid L).length = H.length := by simp [wr]
theorem wr_get {H : Heap} {mid i : Nat} {L : Lo} : (wr H mid L)[i]? = match L.cell mid i with
  | some x => if i < H.length then some (some x) else none
  | none => H[i]? := by
 unfold wr
 rw [List.getElem?_mapIdx]
 cases h : L.cell mid i with
 | none => simp
 | some x =>
  by_cases hi : i < H.length
  ·simp [hi]
  ·rw [List.getElem?_eq_none (by omega)]; simp [hi]
theorem wr_ne {H : Heap} {mid i : Nat} {L : Lo} (h : L.cell mid i = none) : (wr H mid L)[i]? = H[i]? := by rw [wr_get, h]
theorem wr_eq {H X : Heap} {mid : Nat} {L : Lo} (s : St X mid L) (hl : X.length = H.length) (ho : ∀ i, L.cell mid i = none → X[i]? = H[i]?) : wr H mid L = X := by
 apply List.ext_getElem?
 intro i
 rw [wr_get]
 cases h : L.cell mid i with
 | none => exact (ho i h).symm
 | some x =>
  have h1 := s.at' i x h
  have h2 := (List.getElem?_eq_some_iff.1 h1).1
  rw [h1]
  exact if_pos (by omega)
theorem St.ofwr {H : Heap} {mid : Nat} {L : Lo} (w : Wf mid L) (h : ∀ i x, L.cell mid i = some x → i < H.length) : St (wr H mid L) mid L :=
 ⟨w, fun i x hx => by rw [wr_get, hx]; simp [h i x hx]⟩
theorem St.wr_self {H : Heap} {mid : Nat} {L : Lo} (s : St H mid L) : Go.Proofs.Ytibpipgabcpaoaa.wr H mid L = H := wr_eq s rfl fun _ _ => rfl
theorem St.lt {H : Heap} {mid i : Nat} {L : Lo} {x : Nat × List Row} (s : St H mid L) (h : L.cell mid i = some x) : i < H.length := (List.getElem?_eq_some_iff.1 (s.at' i x h)).1
theorem St.free {H : Heap} {mid i : Nat} {L : Lo} (s : St H mid L) {x : Nat × List Row} (h : H[i]? = some (some x)) (h5 : x.1 ≠ 5) (h1 : x.1 ≠ 1) (h19 : x.1 ≠ 19) : L.cell mid i = none := by
 cases hc : L.cell mid i with
 | none => rfl
 | some y =>
  have := s.at' i y hc
  rw [h] at this
  cases this
  unfold Lo.cell at hc
  split at hc
  ·cases hc; exact absurd rfl h5
  ·split at hc
   ·cases hc; exact absurd rfl h1
   ·obtain ⟨q, _, rfl⟩ := Option.map_eq_some_iff.1 hc
    exact absurd rfl h19
theorem St.set_ne {H : Heap} {mid i : Nat} {L : Lo} {o : Option (Nat × List Row)} (s : St H mid L) (h : L.cell mid i = none) : St (H.set i o) mid L :=
 ⟨s.wf, fun j x hx => by rw [List.getElem?_set_ne (fun e => by rw [e, hx] at h; cases h)]; exact s.at' j x hx⟩
theorem St.app {H K : Heap} {mid : Nat} {L : Lo} (s : St H mid L) : St (H ++ K) mid L :=
 ⟨s.wf, fun j x hx => by rw [List.getElem?_append_left (s.lt hx)]; exact s.at' j x hx⟩
theorem St.setM {H : Heap} {mid : Nat} {L : Lo} (s : St H mid L) (c : Int) : St (H.set mid (some (5, [Lo.row { L with ck := c }]))) mid { L with ck := c } := by
 refine ⟨⟨s.wf.nil, s.wf.nd, s.wf.d, s.wf.hm, s.wf.hl, s.wf.le⟩, fun i x hx => ?_⟩
 by_cases h : i = mid
 ·subst h
  rw [cell_m] at hx
  cases hx
  rw [List.getElem?_set_self (s.lt cell_m)]
 ·rw [List.getElem?_set_ne (fun e => h e.symm)]
  refine s.at' i x ?_
  unfold Lo.cell at hx ⊢
  rw [if_neg h] at hx ⊢
  exact hx
def Lo.setP (p : Nat) (q : Pg) (L : Lo) : Lo := { L with pgs := setK p q L.pgs }
theorem St.setP {H : Heap} {mid : Nat} {L : Lo} (s : St H mid L) {p : Nat} {q q' : Pg} (h : getK p L.pgs = some q) (hd : q'.data.length = 16) : St (H.set p (some (19, [pgRow q']))) mid (L.setP p q') := by
 have hw : Wf mid (L.setP p q') := by
  refine ⟨fun e => ?_, ?_, fun x hx => ?_, ?_, ?_, ?_⟩
  ·simp [Lo.setP, s.wf.nil e, setK]
  ·simp only [Lo.setP, setK_keys]; exact s.wf.nd
  ·rcases mem_setK hx with ⟨rfl, _⟩ | ⟨h1, _⟩
   ·exact hd
   ·exact s.wf.d x h1
  ·simp only [Lo.setP, setK_keys]; exact s.wf.hm
  ·simp only [Lo.setP, setK_keys]; exact s.wf.hl
  ·simp only [Lo.setP, setK_len]; exact s.wf.le
 have hr : (L.setP p q').row = L.row := by simp [Lo.row, Lo.pv, Lo.setP, setK_len]
 have hk : (L.setP p q').lrows = L.lrows := by
  have := setK_keys (k := p) (v := q') L.pgs
  have e : ∀ l : List (Nat × Pg), l.map (fun x => pidRow x.1) = (l.map (·.1)).map pidRow := fun l => by simp
  simp only [Lo.lrows, Lo.setP]
  rw [e, e, this]
 refine ⟨hw, fun i x hx => ?_⟩
 by_cases hi : i = p
 ·subst hi
  have hc := s.wf.cell_pg h
  rw [List.getElem?_set_self (s.lt hc)]
  rw [hw.cell_pg (q := q') (by simp [Lo.setP, getK_setK, h])] at hx
  cases hx
  rfl
 ·rw [List.getElem?_set_ne (fun e => hi e.symm)]
  refine s.at' i x ?_
  rw [← hx]
  unfold Lo.cell
  rw [hr, hk]
  simp [Lo.setP, getK_setK, hi]
theorem cell_ne {mid i p : Nat} {L : Lo} {x : Nat × List Row} (h : L.cell mid i = none) (hp : L.cell mid p = some x) : p ≠ i := by
 rintro rfl; rw [h] at hp; cases hp
theorem St.view {H : Heap} {mid : Nat} {L : Lo} (s : St H mid L) : ∃ (ps : List Nat) (qs : List Pg), ps = L.pgs.map (·.1) ∧ qs = L.pgs.map (·.2) ∧ qs.length = ps.length ∧ ps.length = L.pgs.length ∧ L.lrows = ps.map pidRow ∧
  ∀ (i : Nat) (p : Nat) (q : Pg), ps[i]? = some p → qs[i]? = some q → getK p L.pgs = some q ∧ H[p]? = some (some (19, [pgRow q])) ∧ q.data.length = 16 := by
 refine ⟨_, _, rfl, rfl, by simp, by simp, by simp [Lo.lrows], fun i p q hp hq => ?_⟩
 rw [List.getElem?_map, Option.map_eq_some_iff] at hp hq
 obtain ⟨x, hx, rfl⟩ := hp
 obtain ⟨y, hy, rfl⟩ := hq
 rw [hx] at hy
 cases hy
 have hg := getK_of s.wf.nd (List.mem_of_getElem? hx)
 exact ⟨hg, s.pg hg⟩
theorem canon_refl (args : Row) : Canon args args := ⟨rfl, fun _ _ x _ hj h => h x hj⟩
end
section
def hereN (qs : List Pg) : Nat := (qs.filter (·.here)).length
noncomputable def hereM : Row → Heap → Option AVal
 | [.ptr mid 5 0 0], H => (stAt H mid).map fun L => .v (.int .i64 (hereN (L.pgs.map (·.2))))
 | _, _ => none
theorem here_next {qs : List Pg} {k : Nat} (hk : k < qs.length) : hereN (qs.take (k + 1)) = hereN (qs.take k) + (if (qs[k]).here = true then 1 else 0) := by
 unfold hereN
 rw [List.take_succ_eq_append_getElem hk, List.filter_append, List.length_append]
 cases h : (qs[k]).here <;> simp [h]
theorem here_le (qs : List Pg) : hereN qs ≤ qs.length := List.length_filter_le _ _
theorem here_rd : InlOk Try.prog 24 (fun args H => (hereM args H).map (·, H)) := by
 refine inl_canonE Try.func24 rfl fun args H r H' hr => ⟨args, canon_refl args, ?_⟩
 simp only [Option.map_eq_some_iff, Prod.mk.injEq] at hr
 obtain ⟨r0, hr, rfl, rfl⟩ := hr
 unfold hereM at hr
 split at hr
 case h_2 => cases hr
 rename_i mid
 simp only [Option.map_eq_some_iff] at hr
 obtain ⟨L, hst, rfl⟩ := hr
 have s := stAt_iff.1 hst
 have hM := s.mem
 obtain ⟨ps, qs, hps, hqs, hlen, hlp, hlr, hpg⟩ := s.view
 have hle := s.wf.le.1
 rw [← hlp] at hle
 simp only [Lo.row] at hM
 refine bodyE_of noOrc_ok fxMix (by kernel_rfl) (by simp [Try.ntmps24]) ?_
 intro C cP cI cN cD cF cA cR cL
 replace cI : C.inl = fun _ => false := cI
 replace cR : C.rd = fun _ => none := cR
 replace cD : C.dyn = fun _ => [] := cD
 clear cP cN cF cA
 rcases s.cases with ⟨_, hpv, hnil⟩ | ⟨lid, _, hpv, hL'⟩
 ·simp only [hnil, List.map_nil, List.length_nil]
  simp [Try.ntmps24, Try.results24, cSl, cI, cD, cR, hM, hpv]
  refine loop_rounds 1 ?_
  simp [Try.ntmps24, Try.results24, cSl, cI, cD, cR, UnrK, hereN]
  exact Ent.refl _ _
 ·rw [hlr] at hL'
  simp only [← hps, ← hqs, ← hlp]
  rw [← hlp] at hpv
  simp [Try.ntmps24, Try.results24, cSl, cI, cD, cR, hM, hpv]
  refine loop_forE ps.length (fun k (_ : Unit) => ([(3, .v (.int .i64 (hereN (qs.take k)))), (9, .osl lid 1 0 ps.length ps.length), (10, .v (.int .i64 ps.length)), (11, .v (.int .i64 k))], H)) (fun k _ => True) () (fun k _ hk _ => by omega) trivial (Ent.env (by simp [hereN])) ?_ ?_
  ·rintro k _ hk _ hw
   have hkq : k < qs.length := by omega
   obtain ⟨_, hp', hd⟩ := hpg k ps[k] qs[k] (List.getElem?_eq_getElem hk) (List.getElem?_eq_getElem hkq)
   obtain ⟨_, g2, _⟩ := pgRow_get hd
   have hnx := here_next hkq
   have hle2 := here_le (qs.take k)
   have hwn : IntKind.i64.wrap ((hereN (qs.take k) : Int) + 1) = (hereN (qs.take k) : Int) + 1 := w64 (by omega) (by simp at hle2; omega)
   by_cases hh : (qs[k]).here = true
   ·rw [if_pos hh] at hnx
    rw [hh] at g2
    simp [Try.ntmps24, Try.results24, cSl, cI, cD, cR, hL', hk, pidRow, hp', g2, hw, hwn]
    exact ⟨(), trivial, Ent.env (by simp [hnx])⟩
   ·rw [if_neg hh, Nat.add_zero] at hnx
    simp only [Bool.not_eq_true] at hh
    rw [hh] at g2
    simp [Try.ntmps24, Try.results24, cSl, cI, cD, cR, hL', hk, pidRow, hp', g2, hw]
    exact ⟨(), trivial, Ent.env (by simp [hnx])⟩
  ·rintro _ _
   have e : qs.take ps.length = qs := by rw [← hlen]; exact List.take_length
   simp [Try.ntmps24, Try.results24, cSl, cI, cD, cR, e]
   exact Ent.refl _ _
def oldK (qs : List Pg) : Nat → Option Nat
 | 0 => none
 | k + 1 => match qs[k]?, oldK qs k with
  | some q, none => if q.here = true then some k else none
  | some q, some j => if q.here = true ∧ q.asked < ((qs[j]?).getD q).asked then some k else some j
  | none, b => b
theorem oldK_lt {qs : List Pg} : ∀ {k j : Nat}, oldK qs k = some j → j < k
 | 0, j, h => by simp [oldK] at h
 | k + 1, j, h => by
  unfold oldK at h
  split at h
  ·split at h
   ·cases h; omega
   ·cases h
  ·rename_i q j' hj
   split at h
   ·cases h; omega
   ·cases h
    have := oldK_lt hj
    omega
  ·rename_i hb
   have := oldK_lt h
   omega
def oldV (ps : List Nat) : Option Nat → AVal
 | some j => .ptr ((ps[j]?).getD 0) 19 0 0
 | none => .v (.pointer none)
theorem res_oldV {b : Bool} {ps : List Nat} {o : Option Nat} : res b (oldV ps o) = oldV ps o := by cases o <;> rfl
theorem bin_pn {x y : Operand} {id i off : Nat} : aBin Try.prog .eql 75 x y (.ptr id 19 i off) (.v (.pointer none)) = some (.v (.bool false)) := by
 unfold aBin
 simp [Try.underlying75]
attribute [local simp] res_oldV bin_pn
noncomputable def oldM : Row → Heap → Option AVal
 | [.ptr mid 5 0 0], H => (stAt H mid).map fun L => oldV (L.pgs.map (·.1)) (oldK (L.pgs.map (·.2)) L.pgs.length)
 | _, _ => none
theorem old_rd : InlOk Try.prog 25 (fun args H => (oldM args H).map (·, H)) := by
 refine inl_canonE Try.func25 rfl fun args H r H' hr => ⟨args, canon_refl args, ?_⟩
 simp only [Option.map_eq_some_iff, Prod.mk.injEq] at hr
 obtain ⟨r0, hr, rfl, rfl⟩ := hr
 unfold oldM at hr
 split at hr
 case h_2 => cases hr
 rename_i mid
 simp only [Option.map_eq_some_iff] at hr
 obtain ⟨L, hst, rfl⟩ := hr
 have s := stAt_iff.1 hst
 have hM := s.mem
 obtain ⟨ps, qs, hps, hqs, hlen, hlp, hlr, hpg⟩ := s.view
 have hle := s.wf.le.1
 rw [← hlp] at hle
 simp only [Lo.row] at hM
 refine bodyE_of noOrc_ok fxMix (by kernel_rfl) (by simp [Try.ntmps25]) ?_
 intro C cP cI cN cD cF cA cR cL
 replace cI : C.inl = fun _ => false := cI
 replace cR : C.rd = fun _ => none := cR
 replace cD : C.dyn = fun _ => [] := cD
 clear cP cN cF cA
 rcases s.cases with ⟨_, hpv, hnil⟩ | ⟨lid, _, hpv, hL'⟩
 ·simp only [hnil, List.map_nil, List.length_nil]
  simp [Try.ntmps25, Try.results25, cSl, cI, cD, cR, hM, hpv]
  refine loop_rounds 1 ?_
  simp [Try.ntmps25, Try.results25, cSl, cI, cD, cR, UnrK, oldK, oldV]
  exact Ent.refl _ _
 ·rw [hlr] at hL'
  simp only [← hps, ← hqs, ← hlp]
  rw [← hlp] at hpv
  simp [Try.ntmps25, Try.results25, cSl, cI, cD, cR, hM, hpv]
  refine loop_forE ps.length (fun k (_ : Unit) => ([(3, oldV ps (oldK qs k)), (9, .osl lid 1 0 ps.length ps.length), (10, .v (.int .i64 ps.length)), (11, .v (.int .i64 k))], H)) (fun k _ => True) () (fun k _ hk _ => by omega) trivial (Ent.env (by simp [oldK, oldV])) ?_ ?_
  ·rintro k _ hk _ hw
   have hkq : k < qs.length := by omega
   have hqk : qs[k]? = some qs[k] := List.getElem?_eq_getElem hkq
   obtain ⟨_, hp', hd⟩ := hpg k ps[k] qs[k] (List.getElem?_eq_getElem hk) hqk
   obtain ⟨_, g2, g3⟩ := pgRow_get hd
   have hnx : oldK qs (k + 1) = match oldK qs k with
    | none => if (qs[k]).here = true then some k else none
    | some j => if (qs[k]).here = true ∧ (qs[k]).asked < ((qs[j]?).getD qs[k]).asked then some k else some j := by
    show (match qs[k]?, oldK qs k with | some q, none => _ | some q, some j => _ | none, b => b) = _
    rw [hqk]
    cases oldK qs k <;> rfl
   have hvk : oldV ps (some k) = .ptr ps[k] 19 0 0 := by simp [oldV, hk]
   cases ho : oldK qs k with
   | none =>
    rw [ho] at hnx
    simp only at hnx
    by_cases hh : (qs[k]).here = true
    ·rw [if_pos hh] at hnx
     rw [hh] at g2
     simp [Try.ntmps25, Try.results25, cSl, cI, cD, cR, hL', hk, pidRow, hp', g2, g3, hw, oldV]
     exact ⟨(), trivial, Ent.env (by simp [hnx, hvk, hw, hk])⟩
    ·rw [if_neg hh] at hnx
     simp only [Bool.not_eq_true] at hh
     rw [hh] at g2
     simp [Try.ntmps25, Try.results25, cSl, cI, cD, cR, hL', hk, pidRow, hp', g2, g3, hw, oldV]
     exact ⟨(), trivial, Ent.env (by simp [hnx, oldV, hw])⟩
   | some j =>
    rw [ho] at hnx
    simp only at hnx
    have hjk := oldK_lt ho
    have hjp : j < ps.length := by omega
    have hjq : j < qs.length := by omega
    have hqj : qs[j]? = some qs[j] := List.getElem?_eq_getElem hjq
    obtain ⟨_, hpj', hdj⟩ := hpg j ps[j] qs[j] (List.getElem?_eq_getElem hjp) hqj
    obtain ⟨_, _, g3j⟩ := pgRow_get hdj
    have hvj : oldV ps (some j) = .ptr ps[j] 19 0 0 := by simp [oldV, hjp]
    rw [hqj] at hnx
    simp only [Option.getD_some] at hnx
    by_cases hh : (qs[k]).here = true
    ·rw [hh] at g2
     by_cases hlt : (qs[k]).asked < (qs[j]).asked
     ·rw [if_pos ⟨hh, hlt⟩] at hnx
      simp [Try.ntmps25, Try.results25, cSl, cI, cD, cR, hL', hk, pidRow, hp', g2, g3, hw, hvj, hpj', g3j, hlt]
      exact ⟨(), trivial, Ent.env (by simp [hnx, hvk, hw, hk])⟩
     ·rw [if_neg (fun e => hlt e.2)] at hnx
      simp [Try.ntmps25, Try.results25, cSl, cI, cD, cR, hL', hk, pidRow, hp', g2, g3, hw, hvj, hpj', g3j, hlt]
      exact ⟨(), trivial, Ent.env (by simp [hnx, hvj, hw])⟩
    ·rw [if_neg (fun e => hh e.1)] at hnx
     simp only [Bool.not_eq_true] at hh
     rw [hh] at g2
     simp [Try.ntmps25, Try.results25, cSl, cI, cD, cR, hL', hk, pidRow, hp', g2, g3, hw, hvj, hpj', g3j]
     exact ⟨(), trivial, Ent.env (by simp [hnx, hvj, hw])⟩
  ·rintro _ _
   simp [Try.ntmps25, Try.results25, cSl, cI, cD, cR, hlen]
   first | exact Ent.refl _ _ | (rw [res_oldV, res_oldV, hlen]; exact Ent.refl _ _)
end
section
attribute [local simp] res_oldV bin_pn
noncomputable def roomM : Row → Heap → Option AVal
 | [.ptr mid 5 0 0, .v (.int .i64 n)], H => (stAt H mid).map fun L => .v (.bool (decide (n ≤ L.fr + L.sl - L.pgs.length)))
 | _, _ => none
theorem room_rd : InlOk Try.prog 41 (fun args H => (roomM args H).map (·, H)) := by
 refine inl_canonE Try.func41 rfl fun args H r H' hr => ⟨args, canon_refl args, ?_⟩
 simp only [Option.map_eq_some_iff, Prod.mk.injEq] at hr
 obtain ⟨r0, hr, rfl, rfl⟩ := hr
 unfold roomM at hr
 split at hr
 case h_2 => cases hr
 rename_i mid n
 simp only [Option.map_eq_some_iff] at hr
 obtain ⟨L, hst, rfl⟩ := hr
 have s := stAt_iff.1 hst
 have hM := s.mem
 have hle := s.wf.le
 simp only [Lo.row] at hM
 have hw1 : IntKind.i64.wrap (L.fr + L.sl) = L.fr + L.sl := w64 (by omega) (by omega)
 have hw2 : IntKind.i64.wrap (L.fr + L.sl - (L.pgs.length : Int)) = L.fr + L.sl - L.pgs.length := w64 (by omega) (by omega)
 refine bodyE_of noOrc_ok fxMix (by kernel_rfl) (by simp [Try.ntmps41]) ?_
 intro C cP cI cN cD cF cA cR cL
 replace cI : C.inl = fun _ => false := cI
 replace cR : C.rd = fun _ => none := cR
 replace cD : C.dyn = fun _ => [] := cD
 clear cP cN cF cA
 rcases s.cases with ⟨_, hpv, hnil⟩ | ⟨lid, _, hpv, _⟩
 ·rw [hnil] at hw2
  simp [Try.ntmps41, Try.results41, cSl, cI, cD, cR, hM, hpv, hw1, hw2, hnil]
  exact Ent.refl _ _
 ·simp [Try.ntmps41, Try.results41, cSl, cI, cD, cR, hM, hpv, hw1, hw2]
  exact Ent.refl _ _
noncomputable def freeM : Row → Heap → Option AVal
 | [.ptr mid 5 0 0], H => (stAt H mid).map fun L => .v (.tuple #[.int .i64 (L.fr - (hereN (L.pgs.map (·.2)) : Nat)), .int .i64 (L.sl - ((L.pgs.length : Int) - (hereN (L.pgs.map (·.2)) : Nat)))])
 | _, _ => none
end
section
attribute [local simp] res_oldV bin_pn pgRow_len pg16 pg17 pg18 pg16' pg17' pg18' ww16 ww17 ww18
def Lo.old (L : Lo) : Option Nat := (oldK (L.pgs.map (·.2)) L.pgs.length).map fun j => ((L.pgs.map (·.1))[j]?).getD 0
theorem tick_pv (L : Lo) (c : Int) : Lo.pv { L with ck := c } = L.pv := rfl
def Lo.out (L : Lo) : Lo := match L.old with
 | some o => match getK o L.pgs with
  | some q => L.setP o { q with here := false }
  | none => L
 | none => L
def Lo.tick (L : Lo) : Lo := { L with ck := IntKind.i64.wrap (L.ck + 1) }
def Lo.hr (L : Lo) : Nat := hereN (L.pgs.map (·.2))
def Lo.ask (p : Nat) (q : Pg) (L : Lo) : Lo :=
 let c := IntKind.i64.wrap (L.ck + 1)
 let L2 := L.tick.setP p { q with asked := c }
 if q.here = true then L2 else (if (L2.hr : Int) = L.fr then L2.out else L2).setP p { q with asked := c, here := true }
theorem oldK_mono {qs : List Pg} : ∀ (n : Nat) {k j : Nat}, k < n → n ≤ qs.length → oldK qs (k + 1) = some j → ∃ j', oldK qs n = some j'
 | 0, _, _, h, _, _ => absurd h (Nat.not_lt_zero _)
 | n + 1, k, j, h, hl, he => by
  rcases Nat.lt_or_ge k n with h1 | h1
  ·obtain ⟨j', hj⟩ := oldK_mono n h1 (by omega) he
   show ∃ j', (match qs[n]?, oldK qs n with | some q, none => _ | some q, some j => _ | none, b => b) = some j'
   rw [List.getElem?_eq_getElem (by omega : n < qs.length), hj]
   simp only
   split <;> exact ⟨_, rfl⟩
  ·have : k = n := by omega
   subst this
   exact ⟨j, he⟩
theorem oldK_here {qs : List Pg} : ∀ {k j : Nat}, oldK qs k = some j → ∃ q, qs[j]? = some q ∧ q.here = true
 | 0, j, h => by simp [oldK] at h
 | k + 1, j, h => by
  unfold oldK at h
  split at h
  ·rename_i q hq _
   split at h
   ·cases h; exact ⟨q, hq, by assumption⟩
   ·cases h
  ·rename_i q j' hq hj
   split at h
   ·rename_i hh; cases h; exact ⟨q, hq, hh.1⟩
   ·cases h; exact oldK_here hj
  ·exact oldK_here h
theorem old_pos {qs : List Pg} (h : 0 < hereN qs) : ∃ j, oldK qs qs.length = some j := by
 unfold hereN at h
 obtain ⟨x, hx⟩ := List.exists_mem_of_length_pos h
 rw [List.mem_filter] at hx
 obtain ⟨k, hk, rfl⟩ := List.getElem_of_mem hx.1
 have : ∃ j, oldK qs (k + 1) = some j := by
  show ∃ j', (match qs[k]?, oldK qs k with | some q, none => _ | some q, some j => _ | none, b => b) = some j'
  rw [List.getElem?_eq_getElem hk]
  cases oldK qs k with
  | none => exact ⟨k, if_pos hx.2⟩
  | some j => simp only; split <;> exact ⟨_, rfl⟩
 obtain ⟨j, hj⟩ := this
 exact oldK_mono _ hk (Nat.le_refl _) hj
theorem St.old {H : Heap} {mid : Nat} {L : Lo} (s : St H mid L) (h : 0 < L.hr) : ∃ o q, L.old = some o ∧ getK o L.pgs = some q ∧ q.here = true ∧ oldV (L.pgs.map (·.1)) (oldK (L.pgs.map (·.2)) L.pgs.length) = .ptr o 19 0 0 ∧ H[o]? = some (some (19, [pgRow q])) ∧ q.data.length = 16 := by
 obtain ⟨j, hj⟩ := old_pos h
 rw [List.length_map] at hj
 obtain ⟨q, hq, hh⟩ := oldK_here hj
 rw [List.getElem?_map, Option.map_eq_some_iff] at hq
 obtain ⟨x, hx, rfl⟩ := hq
 have hg := getK_of s.wf.nd (List.mem_of_getElem? hx)
 have hp := s.pg hg
 refine ⟨x.1, x.2, by simp [Lo.old, hj, hx], hg, hh, by simp [hj, oldV, hx], hp⟩
noncomputable def askM : Row → Heap → Option (AVal × Heap)
 | [.ptr mid 5 0 0, .ptr p 19 0 0], H => (stAt H mid).bind fun L => (getK p L.pgs).map fun q => (.v (.tuple #[]), wr H mid (L.ask p q))
 | _, _ => none
theorem ask_inl : InlOk Try.prog 47 askM := by
 refine inl_canonE Try.func47 rfl fun args H r H' hr => ⟨args, canon_refl args, ?_⟩
 unfold askM at hr
 split at hr
 case h_2 => cases hr
 rename_i mid p
 simp only [Option.bind_eq_some_iff, Option.map_eq_some_iff, Prod.mk.injEq] at hr
 obtain ⟨L, hst, q, hq, rfl, rfl⟩ := hr
 have s := stAt_iff.1 hst
 have hM := s.mem
 obtain ⟨hP, hd⟩ := s.pg hq
 obtain ⟨g1, g2, g3⟩ := pgRow_get hd
 have hml : mid < H.length := s.lt cell_m
 have hpl : p < H.length := s.lt (s.wf.cell_pg hq)
 have hpm : ¬ p = mid := by rintro rfl; rw [hM] at hP; cases hP
 have hmp : ¬ mid = p := fun e => hpm e.symm
 have s1 := s.setM (IntKind.i64.wrap (L.ck + 1))
 have hq1 : getK p ({ L with ck := IntKind.i64.wrap (L.ck + 1) } : Lo).pgs = some q := hq
 have s2 := s1.setP (q' := { q with asked := IntKind.i64.wrap (L.ck + 1) }) hq1 hd
 generalize hc : IntKind.i64.wrap (L.ck + 1) = c at *
 have gM := (List.getElem?_eq_some_iff.1 hM).2
 have gP := (List.getElem?_eq_some_iff.1 hP).2
 simp only [Lo.row, tick_pv] at hM s1 s2 gM
 refine bodyE_of ((noOrc_ok.withR here_rd).withR old_rd) fxMix (by kernel_rfl) (by simp [Try.ntmps47]) ?_
 intro C cP cI cN cD cF cA cR cL
 replace cI : C.inl = fun _ => false := cI
 replace cR := fun g => congrFun cR g
 simp only [Orc.withP, Orc.withI, Orc.withF, Orc.withD, Orc.withA, Orc.withR, Orc.withC, noOrc] at cR
 replace cD : C.dyn = fun _ => [] := cD
 clear cP cN cF cA
 obtain ⟨dt, us, hr, ak⟩ := q
 simp only at hd s2
 cases hr with
 | true =>
  have e : wr H mid (L.ask p ⟨dt, us, true, ak⟩) = (H.set mid (some (5, [[.v (.int .i64 L.fr), .v (.int .i64 L.sl), .v (.int .i64 c), L.pv, .ptr L.sid 0 0 0]]))).set p (some (19, [pgRow ⟨dt, us, true, c⟩])) := by
   unfold Lo.ask
   simp only [Lo.tick, hc, if_true]
   refine wr_eq s2 (by simp) fun i hi => ?_
   have n1 := cell_ne hi cell_m
   have n2 := cell_ne hi (s2.wf.cell_pg (p := p) (by simp [Lo.setP, getK_setK, hq]; rfl))
   rw [List.getElem?_set_ne n2, List.getElem?_set_ne n1]
  simp [Try.ntmps47, Try.results47, cSl, cI, cD, cR, hM, hP, hml, hpl, hpm, hmp, hc, hd, gM, gP]
  rw [e]
  exact Ent.refl _ _
 | false =>
  have hp2 : getK p (Lo.setP p ⟨dt, us, false, c⟩ { L with ck := c }).pgs = some ⟨dt, us, false, c⟩ := by simp [Lo.setP, getK_setK, hq]
  have ea : L.ask p ⟨dt, us, false, ak⟩ = (if ((Lo.setP p ⟨dt, us, false, c⟩ { L with ck := c }).hr : Int) = L.fr then (Lo.setP p ⟨dt, us, false, c⟩ { L with ck := c }).out else Lo.setP p ⟨dt, us, false, c⟩ { L with ck := c }).setP p ⟨dt, us, true, c⟩ := by
   unfold Lo.ask
   simp [Lo.tick, hc]
  have hfr : 4 ≤ L.fr := s.wf.le.2.1
  generalize hL2 : Lo.setP p ⟨dt, us, false, c⟩ { L with ck := c } = L2 at *
  have hst2 := stAt_iff.2 s2
  have c2 := s2.wf.cell_pg hp2
  by_cases hf : (L2.hr : Int) = L.fr
  ·rw [if_pos hf] at ea
   obtain ⟨o, qo, ho, hgo, hoh, hov, hO, hod⟩ := s2.old (by omega)
   have hop : ¬ o = p := by rintro rfl; rw [hp2] at hgo; cases hgo; cases hoh
   have hpo : ¬ p = o := fun e => hop e.symm
   have com : ¬ mid = o := by
    rintro rfl
    exact s2.wf.hm (List.mem_map.2 ⟨_, getK_mem hgo, rfl⟩)
   have hom : ¬ o = mid := fun e => com e.symm
   have hO' := hO
   rw [List.getElem?_set_ne hpo, List.getElem?_set_ne com] at hO'
   have hol : o < H.length := (List.getElem?_eq_some_iff.1 hO').1
   have gO := (List.getElem?_eq_some_iff.1 hO').2
   have s3 := s2.setP (q' := { qo with here := false }) hgo hod
   have hp3 : getK p (L2.setP o { qo with here := false }).pgs = some ⟨dt, us, false, c⟩ := by simp [Lo.setP, getK_setK, hpo]; exact hp2
   have s4 := s3.setP (q' := ⟨dt, us, true, c⟩) hp3 hd
   have hout : L2.out = L2.setP o { qo with here := false } := by simp [Lo.out, ho, hgo]
   rw [hout] at ea
   have hf' : (hereN (L2.pgs.map (·.2)) : Int) = L.fr := hf
   simp [Try.ntmps47, Try.results47, cSl, cI, cD, cR, hM, hP, hml, hpl, hpm, hmp, hc, hd, gM, gP, hereM, oldM, hst2, hf', hov, hop, hpo, com, hom, hO', gO, hol, hod]
   rw [ea, wr_eq s4 (by simp) fun i hi => ?_]
   ·exact Ent.refl _ _
   ·have n1 := cell_ne hi cell_m
    have n2 := cell_ne hi (s4.wf.cell_pg (p := p) (q := ⟨dt, us, true, c⟩) (by simp [Lo.setP, getK_setK, hpo]; exact ⟨_, hp2⟩))
    have n3 := cell_ne hi (s4.wf.cell_pg (p := o) (q := { qo with here := false }) (by simp [Lo.setP, getK_setK, hop]; exact ⟨_, hgo⟩))
    rw [List.getElem?_set_ne n2, List.getElem?_set_ne n3, List.getElem?_set_ne n2, List.getElem?_set_ne n1]
  ·rw [if_neg hf] at ea
   have s4 := s2.setP (q' := ⟨dt, us, true, c⟩) hp2 hd
   have hf' : ¬ (hereN (L2.pgs.map (·.2)) : Int) = L.fr := hf
   simp [Try.ntmps47, Try.results47, cSl, cI, cD, cR, hM, hP, hml, hpl, hpm, hmp, hc, hd, gM, gP, hereM, hst2, hf']
   rw [List.set_set] at s4
   rw [ea, wr_eq s4 (by simp) fun i hi => ?_]
   ·exact Ent.refl _ _
   ·have n1 := cell_ne hi cell_m
    have n2 := cell_ne hi (s4.wf.cell_pg (p := p) (q := ⟨dt, us, true, c⟩) (by simp [Lo.setP, getK_setK]; exact ⟨_, hp2⟩))
    rw [List.getElem?_set_ne n2, List.getElem?_set_ne n1]
end
section
attribute [local simp] res_oldV bin_pn pgRow_len pg16 pg17 pg18 pg16' pg17' pg18' ww16 ww17 ww18
def Lo.grow (n : Nat) (d : List Int) (L : Lo) : Lo := { L with lid := some (n + 3), pgs := L.pgs ++ [(n + 1, ⟨d, 1, false, 0⟩)] }
def Lo.base (H : Heap) (L : Lo) : Heap := match L.lid with
 | some l => H.set l none
 | none => H
def Lo.newK (n : Nat) (d : List Int) (L : Lo) : Heap := [some (16, [bRow d]), some (19, [pgRow ⟨d, 1, false, 0⟩]), some (1, [pidRow (n + 1)]), some (1, L.lrows ++ [pidRow (n + 1)])]
def Lo.addH (H : Heap) (d : List Int) (L : Lo) : Heap := L.base H ++ L.newK H.length d
def dA (d : List Int) : AVal := .v (.agg (d.map (Value.int .u8)).toArray)
def u8D : Value → Option Int
 | .int .u8 b => some b
 | _ => none
def datD : AVal → Option (List Int)
 | .v (.agg xs) => (xs.toList.mapM u8D).bind fun d => if d.length = 16 then some d else none
 | _ => none
theorem u8_inv : ∀ {r : List Value} {d : List Int}, r.mapM u8D = some d → r = d.map (Value.int .u8)
 | [], d, h => by simp at h; subst h; rfl
 | a :: r, d, h => by
  simp only [List.mapM_cons, Option.bind_eq_bind, Option.bind_eq_some_iff, Option.pure_def, Option.some.injEq] at h
  obtain ⟨b, hb, d', hd, rfl⟩ := h
  rw [List.map_cons, ← u8_inv hd]
  unfold u8D at hb
  split at hb
  ·cases hb; rfl
  ·cases hb
theorem u8_of (d : List Int) : (d.map (Value.int .u8)).mapM u8D = some d := by
 induction d with
 | nil => rfl
 | cons a d ih => simp [List.mapM_cons, u8D, ih]
theorem dat_of {d : List Int} (h : d.length = 16) : datD (dA d) = some d := by
 unfold datD dA
 simp only [u8_of, Option.bind_some, h, if_true]
noncomputable def addM : Row → Heap → Option (AVal × Heap)
 | [.ptr mid 5 0 0, x], H => (stAt H mid).bind fun L => (datD x).bind fun d => if L.pgs.length < 1000 then some (.ptr (H.length + 1) 19 0 0, wr (L.addH H d) mid ((L.grow H.length d).ask (H.length + 1) ⟨d, 1, false, 0⟩)) else none
 | _, _ => none
theorem base_len (H : Heap) (L : Lo) : (L.base H).length = H.length := by unfold Lo.base; split <;> simp
theorem getK_app {α β : Type} [DecidableEq α] {k k' : α} {v : β} : ∀ (l : List (α × β)), getK k (l ++ [(k', v)]) = match getK k l with
  | some x => some x
  | none => if k' = k then some v else none
 | [] => by simp [getK]
 | x :: l => by
  rw [List.cons_append]
  simp only [getK]
  split
  ·rfl
  ·exact getK_app l
theorem St.id_lt {H : Heap} {mid : Nat} {L : Lo} (s : St H mid L) {p : Nat} (h : p ∈ L.pgs.map (·.1)) : p < H.length := by
 cases e : getK p L.pgs with
 | none => exact absurd h (getK_none.1 e)
 | some q => exact s.lt (s.wf.cell_pg e)
theorem St.grow {H : Heap} {mid : Nat} {L : Lo} (s : St H mid L) {d : List Int} (hd : d.length = 16) (h1 : L.pgs.length < 1000) :
  St ((L.addH H d).set mid (some (5, [(L.grow H.length d).row]))) mid (L.grow H.length d) := by
 have hml : mid < H.length := s.lt cell_m
 have hw : Wf mid (L.grow H.length d) := by
  refine ⟨fun e => (by cases e), ?_, fun x hx => ?_, fun e => ?_, fun l hl => ?_, ?_⟩
  ·simp only [Lo.grow, List.map_append, List.map_cons, List.map_nil]
   rw [List.nodup_append]
   refine ⟨s.wf.nd, by simp, fun a ha b hb => ?_⟩
   have := s.id_lt ha
   simp at hb
   omega
  ·simp only [Lo.grow, List.mem_append, List.mem_singleton] at hx
   rcases hx with hx | rfl
   ·exact s.wf.d x hx
   ·exact hd
  ·simp only [Lo.grow, List.map_append, List.mem_append, List.map_cons, List.map_nil, List.mem_singleton] at e
   rcases e with e | e
   ·exact s.wf.hm e
   ·omega
  ·simp only [Lo.grow, Option.some.injEq] at hl
   subst hl
   refine ⟨by omega, fun e => ?_⟩
   simp only [Lo.grow, List.map_append, List.mem_append, List.map_cons, List.map_nil, List.mem_singleton] at e
   rcases e with e | e
   ·have := s.id_lt e; omega
   ·omega
  ·have := s.wf.le
   simp only [Lo.grow, List.length_append, List.length_singleton]
   omega
 have hbl := base_len H L
 refine ⟨hw, fun i x hx => ?_⟩
 by_cases him : i = mid
 ·subst him
  rw [cell_m] at hx
  cases hx
  rw [List.getElem?_set_self (by simp [Lo.addH, hbl]; omega)]
 rw [List.getElem?_set_ne (fun e => him e.symm)]
 unfold Lo.cell at hx
 rw [if_neg him] at hx
 unfold Lo.addH
 by_cases hi : i = H.length + 3
 ·subst hi
  simp only [Lo.grow, if_true, Option.some.injEq] at hx
  subst hx
  rw [List.getElem?_append_right (by omega), hbl]
  simp [Lo.newK, Lo.lrows]
 ·rw [if_neg (by simp [Lo.grow]; omega)] at hx
  obtain ⟨q, hq, rfl⟩ := Option.map_eq_some_iff.1 hx
  simp only [Lo.grow] at hq
  rw [getK_app] at hq
  split at hq
  ·rename_i q' hq'
   cases hq
   have hc := s.wf.cell_pg hq'
   have hlt := s.lt hc
   rw [List.getElem?_append_left (by omega)]
   unfold Lo.base
   split
   ·rename_i l hl
    rw [List.getElem?_set_ne, s.at' _ _ hc]
    rintro rfl
    exact (s.wf.hl _ hl).2 (List.mem_map.2 ⟨_, getK_mem hq', rfl⟩)
   ·exact s.at' _ _ hc
  ·split at hq
   ·rename_i he
    cases hq
    subst he
    rw [List.getElem?_append_right (by omega), hbl]
    simp [Lo.newK]
   ·cases hq
theorem dat_inv {x : AVal} {d : List Int} (h : datD x = some d) : x = dA d ∧ d.length = 16 := by
 unfold datD at h
 split at h
 ·rename_i xs
  simp only [Option.bind_eq_some_iff] at h
  obtain ⟨d', h2, h3⟩ := h
  split at h3
  ·cases h3
   have := u8_inv h2
   refine ⟨?_, by assumption⟩
   simp [dA, ← this]
  ·cases h3
 ·cases h
theorem wr_setM {H : Heap} {mid : Nat} {L : Lo} {o : Option (Nat × List Row)} : wr (H.set mid o) mid L = wr H mid L := by
 apply List.ext_getElem?
 intro i
 rw [wr_get, wr_get, List.length_set]
 cases h : L.cell mid i with
 | none =>
  simp only
  rw [List.getElem?_set_ne]
  rintro rfl
  rw [cell_m] at h; cases h
 | some x => rfl
theorem add_inl : InlOk Try.prog 42 addM := by
 refine inl_canonE Try.func42 rfl fun args H r H' hr => ⟨args, canon_refl args, ?_⟩
 unfold addM at hr
 split at hr
 case h_2 => cases hr
 rename_i mid x
 simp only [Option.bind_eq_some_iff] at hr
 obtain ⟨L, hst, d, hdx, hr⟩ := hr
 split at hr
 case isFalse => cases hr
 rename_i h1000
 simp only [Option.some.injEq, Prod.mk.injEq] at hr
 obtain ⟨rfl, rfl⟩ := hr
 have s := stAt_iff.1 hst
 have hM := s.mem
 obtain ⟨rfl, hd⟩ := dat_inv hdx
 have hml : mid < H.length := s.lt cell_m
 have gM := (List.getElem?_eq_some_iff.1 hM).2
 have sg := s.grow hd h1000
 have hst2 := stAt_iff.2 sg
 have hkg : getK (H.length + 1) (L.grow H.length d).pgs = some ⟨d, 1, false, 0⟩ := by
  simp only [Lo.grow]
  rw [getK_app, getK_none.2 (fun e => by have := s.id_lt e; omega)]
  simp
 simp only [Lo.row] at hM gM
 match d, hd with
 | [b0, b1, b2, b3, b4, b5, b6, b7, b8, b9, b10, b11, b12, b13, b14, b15], hd =>
 refine bodyE_of (noOrc_ok.withI ask_inl) fxMix (by kernel_rfl) (by simp [Try.ntmps42]) ?_
 intro C cP cI cN cD cF cA cR cL
 have cn0 := orcI ask_inl (C := C) (by rw [cN]; rfl)
 replace cI := fun g => congrFun cI g
 simp only [Orc.withP, Orc.withI, Orc.withF, Orc.withD, Orc.withA, Orc.withR, Orc.withC, noOrc] at cI
 replace cR : C.rd = fun _ => none := cR
 replace cD : C.dyn = fun _ => [] := cD
 clear cP cN cF cA
 have hask : askM [.ptr mid 5 0 0, .ptr (H.length + 1) 19 0 0] ((L.addH H [b0, b1, b2, b3, b4, b5, b6, b7, b8, b9, b10, b11, b12, b13, b14, b15]).set mid (some (5, [(L.grow H.length [b0, b1, b2, b3, b4, b5, b6, b7, b8, b9, b10, b11, b12, b13, b14, b15]).row]))) =
   some (.v (.tuple #[]), wr (L.addH H [b0, b1, b2, b3, b4, b5, b6, b7, b8, b9, b10, b11, b12, b13, b14, b15]) mid ((L.grow H.length [b0, b1, b2, b3, b4, b5, b6, b7, b8, b9, b10, b11, b12, b13, b14, b15]).ask (H.length + 1) ⟨[b0, b1, b2, b3, b4, b5, b6, b7, b8, b9, b10, b11, b12, b13, b14, b15], 1, false, 0⟩)) := by
  unfold askM
  simp only [hst2, Option.bind_some, hkg, Option.map_some, wr_setM]
 generalize wr (L.addH H [b0, b1, b2, b3, b4, b5, b6, b7, b8, b9, b10, b11, b12, b13, b14, b15]) mid ((L.grow H.length [b0, b1, b2, b3, b4, b5, b6, b7, b8, b9, b10, b11, b12, b13, b14, b15]).ask (H.length + 1) ⟨[b0, b1, b2, b3, b4, b5, b6, b7, b8, b9, b10, b11, b12, b13, b14, b15], 1, false, 0⟩) = R at *
 clear hst2 sg hkg hdx
 rcases s.cases with ⟨hlid, hpv, hnil⟩ | ⟨lid, hlid, hpv, hL⟩
 ·simp [Lo.addH, Lo.base, hlid, Lo.newK, Lo.grow, Lo.row, Lo.pv, hnil, Lo.lrows, pgRow, bRow, pidRow, List.set_append, hml] at hask
  simp [Try.ntmps42, Try.results42, cSl, cn0, cI, cD, cR, dA, hM, hpv, hml, gM, bRow, List.set_append, List.getElem?_append, hask]
  exact Ent.refl _ _
 ·have hll : lid < H.length := (List.getElem?_eq_some_iff.1 hL).1
  have gL := (List.getElem?_eq_some_iff.1 hL).2
  have hlm : ¬ lid = mid := (s.wf.hl _ hlid).1
  have hml2 : ¬ mid = lid := fun e => hlm e.symm
  have hrl : L.lrows.length = L.pgs.length := by simp [Lo.lrows]
  have h1 : ¬ L.pgs.length + 1 ≤ L.pgs.length := by omega
  have h2 : L.pgs.length + 1 ≤ 4294967296 := by omega
  generalize hrows : L.lrows = rows at *
  simp [Lo.addH, Lo.base, hlid, Lo.newK, Lo.grow, Lo.row, Lo.pv, hrows, pgRow, bRow, pidRow, List.set_append, hml] at hask
  simp [Try.ntmps42, Try.results42, cSl, cn0, cI, cD, cR, dA, hM, hpv, hml, gM, bRow, List.set_append, List.getElem?_append, hask, hll, gL, hlm, hml2, hL, hrl, h1, h2]
  exact Ent.refl _ _
end
section
def pidD : Row → Option Nat
 | [.ptr p 19 0 0] => some p
 | _ => none
theorem pid_inv : ∀ {rows : List Row} {ps : List Nat}, rows.mapM pidD = some ps → rows = ps.map pidRow
 | [], ps, h => by simp at h; subst h; rfl
 | r :: rows, ps, h => by
  simp only [List.mapM_cons, Option.bind_eq_bind, Option.bind_eq_some_iff, Option.pure_def, Option.some.injEq] at h
  obtain ⟨p, hp, ps', hps, rfl⟩ := h
  rw [List.map_cons, ← pid_inv hps]
  unfold pidD at hp
  split at hp
  ·cases hp; rfl
  ·cases hp
theorem pid_rows (ps : List Nat) : (ps.map pidRow).mapM pidD = some ps := by
 induction ps with
 | nil => rfl
 | cons p ps ih =>
  rw [List.map_cons, List.mapM_cons, ih]
  rfl
def let1M : Row → Heap → Option AVal
 | [.ptr p 19 0 0, .ptr bid 2 0 0], H => match H[bid]? with
  | some (some (2, [[.ptr q 19 0 0, _]])) => if (obj H p).isSome = true ∧ (obj H q).isSome = true then some (.v (.bool (p == q))) else none
  | _ => none
 | _, _ => none
theorem let1_rd : InlOk Try.prog 49 (fun args H => (let1M args H).map (·, H)) := by
 refine inl_canonE Try.func49 rfl fun args H r H' hr => ⟨args, canon_refl args, ?_⟩
 simp only [Option.map_eq_some_iff, Prod.mk.injEq] at hr
 obtain ⟨r0, hr, rfl, rfl⟩ := hr
 unfold let1M at hr
 split at hr
 case h_2 => cases hr
 rename_i p bid
 split at hr
 case h_2 => cases hr
 rename_i q x hB
 split at hr
 case isFalse => cases hr
 rename_i hc
 simp only [Option.some.injEq] at hr
 subst hr
 obtain ⟨h1, h2⟩ := hc
 unfold obj at h1 h2
 refine bodyE_of noOrc_ok fxMix (by kernel_rfl) (by simp [Try.ntmps49]) ?_
 intro C cP cI cN cD cF cA cR cL
 replace cI : C.inl = fun _ => false := cI
 replace cR : C.rd = fun _ => none := cR
 replace cD : C.dyn = fun _ => [] := cD
 clear cP cN cF cA
 simp [Try.ntmps49, Try.results49, cSl, cI, cD, cR, hB, h1, h2]
 exact Ent.refl _ _
theorem isSome_set {H : Heap} {l p : Nat} {X : List Row} (h : (obj H p).isSome = true) : (obj (H.set l (some (1, X))) p).isSome = true := by
 unfold obj at h ⊢
 by_cases e : l = p
 ·subst e
  have : l < H.length := by
   rcases Nat.lt_or_ge l H.length with h1 | h1
   ·exact h1
   ·rw [List.getElem?_eq_none h1] at h; cases h
  rw [List.getElem?_set_self this]
  rfl
 ·rw [List.getElem?_set_ne e]; exact h
def idxM : Row → Heap → Option AVal
 | [.osl lid 1 0 n kc, .fn 49 [.ptr bid 2 0 0]], H => match H[lid]?, H[bid]? with
  | some (some (1, rows)), some (some (2, [[.ptr q 19 0 0, _]])) => (rows.mapM pidD).bind fun ps => if n = ps.length ∧ kc = ps.length ∧ ps.length ≤ 1000 ∧ (∀ p ∈ q :: ps, (obj H p).isSome = true) then some (.v (.int .i64 (idxP (fun p => p == q) ps))) else none
  | _, _ => none
 | _, _ => none
theorem let1Nm : (Try.f49.name = "runtime.NumGoroutine") = False := eq_false (beq_eq_false_iff_ne.1 fxFm49)
attribute [local simp] let1Nm
theorem idx_rd : InlOk Try.prog 64 (fun args H => (idxM args H).map (·, H)) := by
 refine inl_canonE Try.func64 rfl fun args H r H' hr => ⟨args, canon_refl args, ?_⟩
 simp only [Option.map_eq_some_iff, Prod.mk.injEq] at hr
 obtain ⟨r0, hr, rfl, rfl⟩ := hr
 unfold idxM at hr
 split at hr
 case h_2 => cases hr
 rename_i lid n kc bid
 split at hr
 case h_2 => cases hr
 rename_i rows q x hL hB
 simp only [Option.bind_eq_some_iff] at hr
 obtain ⟨ps, hps, hr⟩ := hr
 rw [pid_inv hps] at hL
 split at hr
 case isFalse => cases hr
 rename_i hc
 simp only [Option.some.injEq] at hr
 subst hr
 obtain ⟨rfl, rfl, h1000, hall⟩ := hc
 have hcl : ∀ p, p ∈ ps → let1M [.ptr p 19 0 0, .ptr bid 2 0 0] H = some (.v (.bool (p == q))) := fun p hp => by
  unfold let1M
  simp only [hB]
  rw [if_pos ⟨hall p (List.mem_cons_of_mem _ hp), hall q List.mem_cons_self⟩]
 refine bodyE_of (noOrc_ok.withR let1_rd) fxMix (by kernel_rfl) (by simp [Try.ntmps64]) ?_
 intro C cP cI cN cD cF cA cR cL
 replace cI : C.inl = fun _ => false := cI
 replace cR := fun g => congrFun cR g
 simp only [Orc.withP, Orc.withI, Orc.withF, Orc.withD, Orc.withA, Orc.withR, Orc.withC, noOrc] at cR
 replace cD : C.dyn = fun _ => [] := cD
 clear cP cN cF cA
 simp [Try.ntmps64, Try.results64, cSl, cI, cD, cR]
 refine loop_forE ps.length (fun k (_ : Unit) => ([(0, .osl lid 1 0 ps.length ps.length), (1, .fn 49 [.ptr bid 2 0 0]), (7, .v (.int .i64 ps.length)), (8, .v (.int .i64 k))], H)) (fun k _ => ((ps.drop k).findIdx? (fun p => p == q)).map (· + k) = ps.findIdx? (fun p => p == q)) () (fun k _ hk _ => by omega) (by simp) (Ent.env (by simp)) ?_ ?_
 ·intro k _ hk hp hw
  have hc1 := hcl ps[k] (List.getElem_mem hk)
  by_cases e : (ps[k] == q) = true
  ·rw [find_drop hk, if_pos e] at hp
   rw [e] at hc1
   simp [Try.ntmps64, Try.results64, cSl, cI, cD, cR, hL, hk, hw, pidRow, hc1, idxP, ← hp]
   exact Ent.refl _ _
  ·rw [find_drop hk, if_neg e] at hp
   simp only [Bool.not_eq_true] at e
   rw [e] at hc1
   simp [Try.ntmps64, Try.results64, cSl, cI, cD, cR, hL, hk, hw, pidRow, hc1]
   exact ⟨(), by simpa using hp, Ent.env (by simp [hw])⟩
 ·intro _ hp
  simp at hp
  simp [Try.ntmps64, Try.results64, cSl, cI, cD, cR, idxP, ← hp]
  exact Ent.refl _ _
end
section
attribute [local simp] let1Nm
def delM : Row → Heap → Option (AVal × Heap)
 | [.osl lid 1 0 n kc, .fn 49 [.ptr bid 2 0 0]], H => match H[lid]?, H[bid]? with
  | some (some (1, rows)), some (some (2, [[.ptr q 19 0 0, _]])) => (rows.mapM pidD).bind fun ps => if n = ps.length ∧ kc = ps.length ∧ ps.length ≤ 1000 ∧ ps.Nodup ∧ (∀ p ∈ q :: ps, (obj H p).isSome = true) then some (.osl lid 1 0 (ps.filter (fun p => !(p == q))).length (ps.filter (fun p => !(p == q))).length, H.set lid (some (1, (ps.filter (fun p => !(p == q))).map pidRow))) else none
  | _, _ => none
 | _, _ => none
theorem del_inl : InlOk Try.prog 48 delM := by
 refine inl_canonE Try.func48 rfl fun args H r H' hr => ⟨args, canon_refl args, ?_⟩
 unfold delM at hr
 split at hr
 case h_2 => cases hr
 rename_i lid n kc bid
 split at hr
 case h_2 => cases hr
 rename_i rows q x hL hB
 simp only [Option.bind_eq_some_iff] at hr
 obtain ⟨ps, hps, hr⟩ := hr
 rw [pid_inv hps] at hL
 split at hr
 case isFalse => cases hr
 rename_i hc
 simp only [Option.some.injEq, Prod.mk.injEq] at hr
 obtain ⟨rfl, rfl⟩ := hr
 obtain ⟨rfl, rfl, h1000, hnd, hall⟩ := hc
 have hlb : lid ≠ bid := by rintro rfl; rw [hL] at hB; cases hB
 have hll : lid < H.length := (List.getElem?_eq_some_iff.1 hL).1
 have hcl : ∀ X p, p ∈ ps → let1M [.ptr p 19 0 0, .ptr bid 2 0 0] (H.set lid (some (1, X))) = some (.v (.bool (p == q))) := fun X p hp => by
  have hb2 : (H.set lid (some (1, X)))[bid]? = some (some (2, [[.ptr q 19 0 0, x]])) := by rw [List.getElem?_set_ne hlb, hB]
  unfold let1M
  simp only [hb2]
  rw [if_pos ⟨isSome_set (hall p (List.mem_cons_of_mem _ hp)), isSome_set (hall q List.mem_cons_self)⟩]
 have hix : idxM [.osl lid 1 0 ps.length ps.length, .fn 49 [.ptr bid 2 0 0]] H = some (.v (.int .i64 (idxP (fun p => p == q) ps))) := by
  unfold idxM
  simp only [hL, hB, pid_rows, Option.bind_some]
  rw [if_pos ⟨trivial, trivial, h1000, hall⟩]
 have gL := (List.getElem?_eq_some_iff.1 hL).2
 refine bodyE_of ((noOrc_ok.withR let1_rd).withR idx_rd) fxMix (by kernel_rfl) (by simp [Try.ntmps48]) ?_
 intro C cP cI cN cD cF cA cR cL
 replace cI : C.inl = fun _ => false := cI
 replace cR := fun g => congrFun cR g
 simp only [Orc.withP, Orc.withI, Orc.withF, Orc.withD, Orc.withA, Orc.withR, Orc.withC, noOrc] at cR
 replace cD : C.dyn = fun _ => [] := cD
 clear cP cN cF cA
 have hpr : (ps.map pidRow).length = ps.length := by simp
 by_cases h1 : idxP (fun p => p == q) ps < 0
 ·have hno := idxP_none h1
  have hf : ps.filter (fun p => !(p == q)) = ps := by
   rw [List.filter_eq_self]
   intro x hx
   simp [hno x hx]
  have hi : idxP (fun p => p == q) ps = -1 := by
   have hh : ∀ z : Int, z < 0 → -1 ≤ z → z = -1 := by omega
   refine hh _ h1 ?_
   unfold idxP; split <;> omega
  rw [hi] at hix
  have hse : H.set lid (some (1, ps.map pidRow)) = H := by rw [← gL]; exact List.set_getElem_self hll
  rw [hf, hse]
  simp [Try.ntmps48, Try.results48, cSl, cI, cD, cR, hix]
  exact Ent.refl _ _
 ·obtain ⟨i0, hi, hi0, hp0, hb0⟩ := idxP_some h1
  have hi1 : ¬ ((i0 : Int) = -1) := by omega
  have hw0 : IntKind.i64.wrap ((i0 : Int) + 1) = ((i0 + 1 : Nat) : Int) := by rw [w64 (by omega) (by omega)]; simp
  rw [hi] at hix
  have hstart : (ps.take (i0 + 1)).filter (fun p => !(p == q)) = ps.take i0 := by
   rw [List.take_succ_eq_append_getElem hi0, List.filter_append]
   have e1 : (ps.take i0).filter (fun x => !(x == q)) = ps.take i0 := by
    rw [List.filter_eq_self]
    intro x hx
    obtain ⟨j, hj, rfl⟩ := List.mem_iff_getElem.1 hx
    simp at hj
    have := hb0 j (by omega)
    simpa using this
   rw [e1]
   simp [hp0]
  have hse : H.set lid (some (1, ps.map pidRow)) = H := by rw [← gL]; exact List.set_getElem_self hll
  simp [Try.ntmps48, Try.results48, cSl, cI, cD, cR, hix, hi1, hw0]
  refine loop_ent (σ := {j : Nat // i0 < j ∧ j ≤ ps.length}) (fun z => ([(0, .osl lid 1 0 ps.length ps.length), (1, .fn 49 [.ptr bid 2 0 0]), (5, .v (.int .i64 ((ps.take z.val).filter (fun p => !(p == q))).length)), (6, .v (.int .i64 z.val))], H.set lid (some (1, ((ps.take z.val).filter (fun p => !(p == q)) ++ ps.drop ((ps.take z.val).filter (fun p => !(p == q))).length).map pidRow)))) (fun z => ps.length - z.val) ⟨i0 + 1, by omega, by omega⟩ ?_ ?_
  ·have hm : min i0 ps.length = i0 := by omega
   have e2 : (ps.take i0 ++ ps.drop (ps.take i0).length) = ps := by simp [hm]
   simp only [hstart, e2, hse]
   exact Ent.env (by simp [hm])
  rintro ⟨j, hj1, hj2⟩
  have hsub : ((ps.take j).filter (fun x => !(x == q))).length ≤ j := by
   have := (List.filter_sublist (l := ps.take j) (p := fun x => !(x == q))).length_le
   rw [List.length_take] at this; omega
  have hnx : ∀ (hj : j < ps.length), (ps.take (j + 1)).filter (fun x => !(x == q)) = (ps.take j).filter (fun x => !(x == q)) ++ (if (ps[j] == q) = true then [] else [ps[j]]) := by
   intro hj
   rw [List.take_succ_eq_append_getElem hj, List.filter_append]
   by_cases e : (ps[j] == q) = true
   ·simp [e]
   ·simp [e]
  generalize hF : (ps.take j).filter (fun x => !(x == q)) = F at *
  have hwj : IntKind.i64.wrap ((j : Int) + 1) = ((j + 1 : Nat) : Int) := by rw [w64 (by omega) (by omega)]; simp
  have hwF : IntKind.i64.wrap ((F.length : Int) + 1) = ((F.length + 1 : Nat) : Int) := by rw [w64 (by omega) (by omega)]; simp
  have hFl : F.length ≤ ps.length := by omega
  have hlen : F.length + (ps.length - F.length) = ps.length := by omega
  have hlen2 : (F ++ ps.drop F.length).length = ps.length := by simp; omega
  rcases Nat.lt_or_ge j ps.length with hj | hj
  ·replace hnx := hnx hj
   have hget : (F ++ ps.drop F.length)[j]? = some ps[j] := by
    rw [List.getElem?_append_right (by omega), List.getElem?_drop, show F.length + (j - F.length) = j by omega, List.getElem?_eq_getElem hj]
   have hlr : ((F ++ ps.drop F.length).map pidRow).length = ps.length := by simpa using hlen2
   have hgr : ((F ++ ps.drop F.length).map pidRow)[j]? = some [.ptr ps[j] 19 0 0] := by simp only [List.getElem?_map, hget, Option.map_some, pidRow]
   have hFj : F.length < ps.length := by omega
   have hset : ((F ++ ps.drop F.length).map pidRow).set F.length [.ptr ps[j] 19 0 0] = ((F ++ [ps[j]]) ++ ps.drop (F.length + 1)).map pidRow := by
    rw [List.drop_eq_getElem_cons hFj, List.map_append, List.set_append_right _ _ (by simp)]
    simp only [List.length_map, Nat.sub_self, List.map_cons, List.set_cons_zero, List.map_append, List.map_nil, List.append_assoc, List.cons_append, List.nil_append, pidRow]
   have hgF0 : ((F ++ ps.drop F.length).map pidRow)[F.length]? = some [.ptr ps[F.length] 19 0 0] := by
    rw [List.getElem?_map, List.getElem?_append_right (by omega), List.getElem?_drop, Nat.sub_self, Nat.add_zero, List.getElem?_eq_getElem hFj]; rfl
   have hXe : (F ++ ps.drop F.length).map pidRow = F.map pidRow ++ (ps.map pidRow).drop F.length := by simp
   have hse2 : ((F ++ [ps[j]]) ++ ps.drop (F.length + 1)).map pidRow = (F ++ [ps[j]]).map pidRow ++ (ps.map pidRow).drop (F.length + 1) := by simp
   rw [hse2] at hset
   generalize hX : (F ++ ps.drop F.length).map pidRow = X at *
   have hgj : ∀ (h : j < X.length), X[j] = [.ptr ps[j] 19 0 0] := by
    intro h; rw [List.getElem?_eq_getElem h] at hgr; exact Option.some.inj hgr
   have hgF : ∀ (h : F.length < X.length), X[F.length] = [.ptr ps[F.length] 19 0 0] := by
    intro h; rw [List.getElem?_eq_getElem h] at hgF0; exact Option.some.inj hgF0
   have hc1 := hcl X ps[j] (List.getElem_mem hj)
   by_cases e : (ps[j] == q) = true
   ·simp only [e, if_true, List.append_nil] at hnx
    rw [e] at hc1
    simp [Try.ntmps48, Try.results48, cSl, cI, cD, cR, hj, hwj, hlr, hgr, hgj, hll, hc1]
    refine ⟨⟨j + 1, by omega, by omega⟩, by simp only; omega, ?_⟩
    simp only [hnx, ← hXe]
    refine Ent.env ?_
    simp
   ·simp only [e, if_false, Bool.false_eq_true] at hnx
    simp only [Bool.not_eq_true] at e
    rw [e] at hc1
    simp [Try.ntmps48, Try.results48, cSl, cI, cD, cR, hj, hwj, hwF, hFj, hlr, hgr, hgj, hgF, hll, hc1]
    refine ⟨⟨j + 1, by omega, by omega⟩, by simp only; omega, ?_⟩
    simp only [hnx, List.length_append, List.length_singleton, ← hset]
    refine Ent.env ?_
    simp
  ·have hje : j = ps.length := by omega
   subst hje
   rw [List.take_length] at hF
   rw [hF]
   have hFp : (F.map pidRow).length = F.length := by simp
   simp [Try.ntmps48, Try.results48, cSl, cI, cD, cR, hFl, hlen, hll]
   have hid : (H.set lid (some (1, F.map pidRow ++ (List.replicate (ps.length - F.length) [AVal.v (Value.pointer none)] ++ List.drop ps.length (F.map pidRow ++ List.drop F.length (ps.map pidRow))))))[lid]? = some (some (1, F.map pidRow ++ (List.replicate (ps.length - F.length) [AVal.v (Value.pointer none)] ++ List.drop ps.length (F.map pidRow ++ List.drop F.length (ps.map pidRow))))) := List.getElem?_set_self hll
   have t1 := Ent.trunc (n0 := H.length) (ρ := [(0, AVal.osl lid 1 0 F.length F.length)]) hid (Nat.succ_ne_zero 0)
   rw [List.set_set] at t1
   refine t1.trans ?_
   refine (Ent.env (ρ := [(0, AVal.osl lid 1 0 F.length F.length), (0, AVal.osl lid 1 0 F.length ps.length)]) (by simp)).trans ?_
   exact Ent.slotL (Lss.cap (Nat.le_refl _) hFl)
end
section
attribute [local simp] let1Nm pgRow_len pg16 pg17 pg18 pg16' pg17' pg18' ww16 ww17 ww18
def Lo.delP (p : Nat) (L : Lo) : Lo := { L with pgs := delK p L.pgs }
def lessU (q : Pg) : Pg := { q with users := IntKind.i64.wrap (q.users - 1) }
def Lo.letP (p : Nat) (q : Pg) (L : Lo) : Lo := if (lessU q).users = 0 then L.delP p else L.setP p (lessU q)
def letB (H : Heap) (p : Nat) (q : Pg) : Heap := if (lessU q).users = 0 then H.set p none ++ [none] else H ++ [none]
noncomputable def letM : Row → Heap → Option (AVal × Heap)
 | [.ptr mid 5 0 0, .agg [.ptr p 19 0 0, .v (.int .i64 _)]], H => (stAt H mid).bind fun L => (getK p L.pgs).map fun q => (.v (.tuple #[]), wr (letB H p q) mid (L.letP p q))
 | _, _ => none
theorem delK_sub {α β : Type} [DecidableEq α] {k : α} {l : List (α × β)} : ∀ x ∈ delK k l, x ∈ l := fun x hx => (List.mem_filter.1 hx).1
theorem delK_keys {α β : Type} [DecidableEq α] {k : α} (l : List (α × β)) : ((delK k l).map (·.1)).Sublist (l.map (·.1)) := List.filter_sublist.map _
theorem delK_len {α β : Type} [DecidableEq α] {k : α} (l : List (α × β)) : (delK k l).length ≤ l.length := List.length_filter_le _ _
theorem delK_fst {β : Type} {k : Nat} (l : List (Nat × β)) : (delK k l).map (·.1) = (l.map (·.1)).filter (fun p => !(p == k)) := by
 unfold delK
 rw [List.filter_map]
 congr 1
 apply List.filter_congr
 intro x _
 simp only [Function.comp]
 by_cases h : x.1 = k <;> simp [h]
theorem St.del {H X : Heap} {mid l p : Nat} {L : Lo} (s : St H mid L) (hl : L.lid = some l) (ho : ∀ i, i ≠ p → i ≠ mid → i ≠ l → i < H.length → X[i]? = H[i]?)
  (hm : X[mid]? = some (some (5, [(L.delP p).row]))) (hlx : X[l]? = some (some (1, (L.delP p).lrows))) : St X mid (L.delP p) := by
 have hw : Wf mid (L.delP p) := by
  refine ⟨fun e => ?_, s.wf.nd.sublist (delK_keys _), fun x hx => s.wf.d x (delK_sub x hx), fun e => s.wf.hm ((delK_keys _).subset e), fun l hl => ⟨(s.wf.hl l hl).1, fun e => (s.wf.hl l hl).2 ((delK_keys _).subset e)⟩, ?_⟩
  ·rw [show L.lid = none from e] at hl; cases hl
  ·have := s.wf.le
   have h2 := delK_len (k := p) L.pgs
   simp only [Lo.delP]
   omega
 refine ⟨hw, fun i x hx => ?_⟩
 unfold Lo.cell at hx
 split at hx
 ·rename_i e; cases hx; rw [e]; exact hm
 ·rename_i him
  split at hx
  ·rename_i e
   cases hx
   have : l = i := by
    have e' : L.lid = some i := e
    rw [hl] at e'; exact Option.some.inj e'
   rw [← this]; exact hlx
  ·rename_i hil
   obtain ⟨q, hq, rfl⟩ := Option.map_eq_some_iff.1 hx
   simp only [Lo.delP, getK_delK] at hq
   split at hq
   ·cases hq
   ·rename_i hip
    have hc := s.wf.cell_pg hq
    rw [ho i hip him (fun e => hil (by rw [e]; exact hl)) (s.lt hc)]
    exact s.at' _ _ hc
theorem let_inl : InlOk Try.prog 31 letM := by
 refine inl_canonE Try.func31 rfl fun args H r H' hr => ⟨args, canon_refl args, ?_⟩
 unfold letM at hr
 split at hr
 case h_2 => cases hr
 rename_i mid p rg
 simp only [Option.bind_eq_some_iff, Option.map_eq_some_iff, Prod.mk.injEq] at hr
 obtain ⟨L, hst, q, hq, rfl, rfl⟩ := hr
 have s := stAt_iff.1 hst
 have hM := s.mem
 obtain ⟨hP, hd⟩ := s.pg hq
 have hml : mid < H.length := s.lt cell_m
 have hpl : p < H.length := s.lt (s.wf.cell_pg hq)
 have hpm : ¬ p = mid := by rintro rfl; rw [hM] at hP; cases hP
 have hmp : ¬ mid = p := fun e => hpm e.symm
 have gM := (List.getElem?_eq_some_iff.1 hM).2
 have gP := (List.getElem?_eq_some_iff.1 hP).2
 obtain ⟨l, hlid, hpv, hL⟩ : ∃ l, L.lid = some l ∧ L.pv = .osl l 1 0 L.pgs.length L.pgs.length ∧ H[l]? = some (some (1, L.lrows)) := by
  rcases s.cases with ⟨_, _, hnil⟩ | h
  ·rw [hnil] at hq; cases hq
  ·exact h
 have hll : l < H.length := (List.getElem?_eq_some_iff.1 hL).1
 have gL := (List.getElem?_eq_some_iff.1 hL).2
 have hlm : ¬ l = mid := (s.wf.hl _ hlid).1
 have hml2 : ¬ mid = l := fun e => hlm e.symm
 have hpl2 : ¬ p = l := by rintro rfl; rw [hL] at hP; cases hP
 have hlp : ¬ l = p := fun e => hpl2 e.symm
 have hB : letB H p q = if IntKind.i64.wrap (q.users - 1) = 0 then H.set p none ++ [none] else H ++ [none] := rfl
 have hlt : L.letP p q = if IntKind.i64.wrap (q.users - 1) = 0 then L.delP p else L.setP p { q with users := IntKind.i64.wrap (q.users - 1) } := rfl
 generalize hk2 : IntKind.i64.wrap (q.users - 1) = u at *
 simp only [Lo.row] at hM gM
 refine bodyE_of (noOrc_ok.withI del_inl) fxMix (by kernel_rfl) (by simp [Try.ntmps31]) ?_
 intro C cP cI cN cD cF cA cR cL
 have cn0 := orcI del_inl (C := C) (by rw [cN]; rfl)
 replace cI := fun g => congrFun cI g
 simp only [Orc.withP, Orc.withI, Orc.withF, Orc.withD, Orc.withA, Orc.withR, Orc.withC, noOrc] at cI
 replace cR : C.rd = fun _ => none := cR
 replace cD : C.dyn = fun _ => [] := cD
 clear cP cN cF cA
 by_cases hu : u = 0
 ·subst hu
  have hdel : delM [.osl l 1 0 L.pgs.length L.pgs.length, .fn 49 [.ptr H.length 2 0 0]] (H.set p (some (19, [pgRow ⟨q.data, 0, q.here, q.asked⟩])) ++ [some (2, [[.ptr p 19 0 0, .v (.int .i64 rg)]])]) =
    some (.osl l 1 0 (delK p L.pgs).length (delK p L.pgs).length, (H.set p (some (19, [pgRow ⟨q.data, 0, q.here, q.asked⟩]))).set l (some (1, (L.delP p).lrows)) ++ [some (2, [[.ptr p 19 0 0, .v (.int .i64 rg)]])]) := by
   have e1 : (H.set p (some (19, [pgRow ⟨q.data, 0, q.here, q.asked⟩])) ++ [some (2, [[.ptr p 19 0 0, .v (.int .i64 rg)]])])[l]? = some (some (1, (L.pgs.map (·.1)).map pidRow)) := by
    rw [List.getElem?_append_left (by simpa using hll), List.getElem?_set_ne hpl2, hL]
    simp [Lo.lrows]
   have e2 : (H.set p (some (19, [pgRow ⟨q.data, 0, q.here, q.asked⟩])) ++ [some (2, [[.ptr p 19 0 0, .v (.int .i64 rg)]])])[H.length]? = some (some (2, [[.ptr p 19 0 0, .v (.int .i64 rg)]])) := by
    rw [List.getElem?_append_right (by simp)]; simp
   have e3 : ∀ x ∈ p :: L.pgs.map (·.1), (obj (H.set p (some (19, [pgRow ⟨q.data, 0, q.here, q.asked⟩])) ++ [some (2, [[AVal.ptr p 19 0 0, .v (.int .i64 rg)]])]) x).isSome = true := by
    intro x hx
    by_cases hxp : x = p
    ·subst hxp
     unfold obj
     rw [List.getElem?_append_left (by simpa using hpl), List.getElem?_set_self hpl]
     rfl
    ·rcases List.mem_cons.1 hx with rfl | hx
     ·exact absurd rfl hxp
     ·cases e : getK x L.pgs with
      | none => exact absurd hx (getK_none.1 e)
      | some qx =>
       unfold obj
       rw [List.getElem?_append_left (by simpa using s.id_lt hx), List.getElem?_set_ne (fun e => hxp e.symm), (s.pg e).1]
       rfl
   have e4 : (delK p L.pgs).length = ((L.pgs.map (·.1)).filter (fun x => !(x == p))).length := by rw [← delK_fst]; simp
   have e5 : (L.delP p).lrows = ((L.pgs.map (·.1)).filter (fun x => !(x == p))).map pidRow := by rw [← delK_fst]; simp [Lo.lrows, Lo.delP]
   unfold delM
   simp only [e1, e2, pid_rows, Option.bind_some]
   rw [if_pos ⟨by simp, by simp, by simpa using s.wf.le.1, s.wf.nd, e3⟩, e4, e5, List.set_append_left _ _ (by simpa using hll)]
  simp [Try.ntmps31, Try.results31, cSl, cn0, cI, cD, cR, hM, hP, hml, hpl, hpm, hmp, hd, gM, gP, List.set_append, List.getElem?_append, hk2, hpv, hdel, hll, hlm, hml2, hpl2, hlp, gL]
  generalize hZ : ((H.set p (some (19, [pgRow ⟨q.data, 0, q.here, q.asked⟩]))).set l (some (1, (L.delP p).lrows))).set mid (some (5, [[.v (.int .i64 L.fr), .v (.int .i64 L.sl), .v (.int .i64 L.ck), .osl l 1 0 (delK p L.pgs).length (delK p L.pgs).length, .ptr L.sid 0 0 0]])) = Z
  have hzl : Z.length = H.length := by rw [← hZ]; simp
  have zo : ∀ i, i ≠ p → i ≠ mid → i ≠ l → Z[i]? = H[i]? := fun i h1 h2 h3 => by
   rw [← hZ, List.getElem?_set_ne (fun e => h2 e.symm), List.getElem?_set_ne (fun e => h3 e.symm), List.getElem?_set_ne (fun e => h1 e.symm)]
  have zm : Z[mid]? = some (some (5, [(L.delP p).row])) := by
   rw [← hZ, List.getElem?_set_self (by simpa using hml)]
   simp [Lo.row, Lo.pv, Lo.delP, hlid]
  have zl : Z[l]? = some (some (1, (L.delP p).lrows)) := by
   rw [← hZ, List.getElem?_set_ne hml2, List.getElem?_set_self (by simpa using hll)]
  have k1 := Ent.kill (n0 := H.length) (ρ := [(0, AVal.v (.tuple #[]))]) (H := Z ++ [some (2, [[AVal.ptr p 19 0 0, .v (.int .i64 rg)]])]) H.length
  rw [List.set_append_right _ _ (by omega), hzl, Nat.sub_self, List.set_cons_zero] at k1
  have k2 := Ent.kill (n0 := H.length) (ρ := [(0, AVal.v (.tuple #[]))]) (H := Z ++ [none]) p
  rw [List.set_append_left _ _ (by omega)] at k2
  refine Ent.trans ?_ (k2.trans k1)
  have sd : St (Z.set p none ++ [none]) mid (L.delP p) := by
   refine s.del hlid (fun i h1 h2 h3 h4 => ?_) ?_ ?_
   ·rw [List.getElem?_append_left (by simpa [hzl] using h4), List.getElem?_set_ne (fun e => h1 e.symm), zo i h1 h2 h3]
   ·rw [List.getElem?_append_left (by simpa [hzl] using hml), List.getElem?_set_ne hpm, zm]
   ·rw [List.getElem?_append_left (by simpa [hzl] using hll), List.getElem?_set_ne hpl2, zl]
  rw [hB, hlt, if_pos rfl, if_pos rfl, wr_eq sd (by simp [hzl]) fun i hi => ?_]
  ·exact Ent.refl _ _
  ·have n1 := cell_ne hi cell_m
   have n2 := cell_ne hi (sd.wf.cell_l (l := l) hlid)
   by_cases hip : p = i
   ·subst hip
    rw [List.getElem?_append_left (by simpa [hzl] using hpl), List.getElem?_append_left (by simpa using hpl), List.getElem?_set_self (by omega), List.getElem?_set_self hpl]
   ·rw [List.getElem?_append, List.getElem?_append, List.length_set, List.length_set, hzl, List.getElem?_set_ne hip, List.getElem?_set_ne hip, zo i (fun e => hip e.symm) (fun e => n1 e.symm) (fun e => n2 e.symm)]
 ·simp [Try.ntmps31, Try.results31, cSl, cn0, cI, cD, cR, hM, hP, hml, hpl, hpm, hmp, hd, gM, gP, List.set_append, List.getElem?_append, hk2, hu]
  have k1 := Ent.kill (n0 := H.length) (ρ := [(0, AVal.v (.tuple #[]))]) (H := H.set p (some (19, [pgRow ⟨q.data, u, q.here, q.asked⟩])) ++ [some (2, [[AVal.ptr p 19 0 0, .v (.int .i64 rg)]])]) H.length
  rw [List.set_append_right _ _ (by simp), List.length_set, Nat.sub_self, List.set_cons_zero] at k1
  refine Ent.trans ?_ k1
  have sd := (s.setP (q' := ⟨q.data, u, q.here, q.asked⟩) hq hd).app (K := [none])
  rw [hB, hlt, if_neg hu, if_neg hu, wr_eq sd (by simp) fun i hi => ?_]
  ·exact Ent.refl _ _
  ·have n1 := cell_ne hi (sd.wf.cell_pg (p := p) (q := ⟨q.data, u, q.here, q.asked⟩) (by simp [Lo.setP, getK_setK, hq]))
   rw [List.getElem?_append, List.getElem?_append, List.length_set, List.getElem?_set_ne n1]
end
section
abbrev En := List (Int × (Nat × Int))
def enV (x : Nat × Int) : AVal := .agg [.ptr x.1 19 0 0, .v (.int .i64 x.2)]
def enRow (x : Int × (Nat × Int)) : Row := [.v (.int .i64 x.1), enV x.2]
def spV (x : Nat × En) : AVal := .ptr x.1 0 0 0
def spRow (x : Int × (Nat × En)) : Row := [.v (.int .i64 x.1), spV x.2]
structure Ab where
 lo : Lo
 sps : List (Int × (Nat × En))
structure Rep (H : Heap) (mid : Nat) (A : Ab) : Prop where
 st : St H mid A.lo
 sp : H[A.lo.sid]? = some (some (0, A.sps.map spRow))
 en : ∀ x ∈ A.sps, H[x.2.1]? = some (some (0, x.2.2.map enRow))
 nds : (A.sps.map (·.1)).Nodup
 ndm : (A.lo.sid :: A.sps.map (·.2.1)).Nodup
 ndk : ∀ x ∈ A.sps, (x.2.2.map (·.1)).Nodup
theorem en_inj : ∀ {a b : En}, a.map enRow = b.map enRow → a = b
 | [], [], _ => rfl
 | [], _ :: _, h => by simp at h
 | _ :: _, [], h => by simp at h
 | x :: a, y :: b, h => by
  obtain ⟨k, p, r⟩ := x
  obtain ⟨k', p', r'⟩ := y
  simp only [List.map_cons, List.cons.injEq, enRow, enV, AVal.v.injEq, Value.int.injEq, true_and, AVal.agg.injEq, AVal.ptr.injEq, and_true] at h
  obtain ⟨⟨rfl, rfl, rfl⟩, h2⟩ := h
  rw [en_inj h2]
theorem sp_inj : ∀ {a b : List (Int × (Nat × En))}, a.map spRow = b.map spRow → a.map (fun x => (x.1, x.2.1)) = b.map (fun x => (x.1, x.2.1))
 | [], [], _ => rfl
 | [], _ :: _, h => by simp at h
 | _ :: _, [], h => by simp at h
 | x :: a, y :: b, h => by
  simp only [List.map_cons, List.cons.injEq, spRow, spV, AVal.v.injEq, Value.int.injEq, true_and, AVal.ptr.injEq, and_true] at h
  obtain ⟨⟨h1, h3⟩, h2⟩ := h
  rw [List.map_cons, List.map_cons, sp_inj h2, h1, h3]
theorem sps_eq {H : Heap} : ∀ {a b : List (Int × (Nat × En))}, a.map (fun x => (x.1, x.2.1)) = b.map (fun x => (x.1, x.2.1)) → (∀ x ∈ a, H[x.2.1]? = some (some (0, x.2.2.map enRow))) → (∀ x ∈ b, H[x.2.1]? = some (some (0, x.2.2.map enRow))) → a = b
 | [], [], _, _, _ => rfl
 | [], _ :: _, h, _, _ => by simp at h
 | _ :: _, [], h, _, _ => by simp at h
 |(s, m, e) :: a, (s', m', e') :: b, h, ha, hb => by
  simp only [List.map_cons, List.cons.injEq, Prod.mk.injEq] at h
  obtain ⟨⟨rfl, rfl⟩, h2⟩ := h
  have h3 := ha (s, m, e) List.mem_cons_self
  have h4 := hb (s, m, e') List.mem_cons_self
  simp only at h3 h4
  rw [h3] at h4
  simp only [Option.some.injEq, Prod.mk.injEq, true_and] at h4
  rw [en_inj h4, sps_eq h2 (fun x hx => ha x (List.mem_cons_of_mem _ hx)) fun x hx => hb x (List.mem_cons_of_mem _ hx)]
theorem rep_uniq {H : Heap} {mid : Nat} {A A' : Ab} (r : Rep H mid A) (r' : Rep H mid A') : A = A' := by
 have hl := st_uniq r.st r'.st
 obtain ⟨lo, sps⟩ := A
 obtain ⟨lo', sps'⟩ := A'
 simp only at hl
 subst hl
 have h1 := r.sp
 rw [r'.sp] at h1
 simp only [Option.some.injEq, Prod.mk.injEq, true_and] at h1
 rw [sps_eq (sp_inj h1.symm) r.en r'.en]
def cntE (p : Nat) (es : En) : Nat := es.countP fun x => x.2.1 == p
def cntS (p : Nat) (sps : List (Int × (Nat × En))) : Nat := (sps.map fun x => cntE p x.2.2).sum
structure Good (A : Ab) : Prop where
 us : ∀ x ∈ A.lo.pgs, x.2.users = cntS x.1 A.sps ∧ 1 ≤ x.2.users
 pg : ∀ x ∈ A.sps, ∀ e ∈ x.2.2, e.2.1 ∈ A.lo.pgs.map (·.1)
 key : ∀ x ∈ A.sps, ∀ e ∈ x.2.2, (0 ≤ e.1 ∧ e.1 < 64) ∧ 0 ≤ e.2.2 ∧ e.2.2 ≤ 7
 num : ∀ x ∈ A.sps, 1 ≤ x.1 ∧ x.1 ≤ 16
 room : (A.lo.pgs.length : Int) ≤ A.lo.fr + A.lo.sl
noncomputable def repAt (H : Heap) (mid : Nat) : Option Ab := @dite _ (∃ A, Rep H mid A ∧ Good A) (Classical.propDecidable _) (fun h => some h.choose) fun _ => none
theorem repAt_iff {H : Heap} {mid : Nat} {A : Ab} : repAt H mid = some A ↔ Rep H mid A ∧ Good A := by
 unfold repAt
 constructor
 ·intro h
  split at h
  ·rename_i hx
   cases h
   exact hx.choose_spec
  ·cases h
 ·intro h
  rw [dif_pos ⟨A, h⟩]
  exact congrArg some (rep_uniq (Exists.choose_spec (⟨A, h⟩ : ∃ A, Rep H mid A ∧ Good A)).1 h.1)
theorem keyI_eq (a b : Int) : keyEq Try.prog 3 (.int .i64 a) (.int .i64 b) = some (a == b) := by
 simp [keyEq]
theorem keyI_ok (a : Int) : keyOk Try.prog 3 (.int .i64 a) = true := rfl
section
variable {β : Type} {g : Int × β → Row} {v : β → AVal}
theorem find_key (hg : ∀ x, g x = [.v (.int .i64 x.1), v x.2]) (s : Int) : ∀ (l : List (Int × β)), (l.map (·.1)).Nodup → findR Try.prog 3 (.int .i64 s) (l.map g) = some ((getK s l).map v)
 | [], _ => rfl
 | x :: l, hn => by
  rw [List.map_cons, List.nodup_cons] at hn
  have ih := find_key hg s l hn.2
  rw [List.map_cons, hg x]
  simp only [findR, keyI_eq, getK]
  by_cases h : x.1 = s
  ·subst h
   rw [getK_none.2 hn.1] at ih
   simp [ih]
  ·have h2 : (s == x.1) = false := by simp; exact fun e => h e.symm
   simp [h2, ih, h]
def putK (k : Int) (v : β) : List (Int × β) → List (Int × β)
 | [] => [(k, v)]
 | x :: l => if x.1 = k then (k, v) :: l else x :: putK k v l
theorem put_key (hg : ∀ x, g x = [.v (.int .i64 x.1), v x.2]) (s : Int) (b : β) : ∀ (l : List (Int × β)), (l.map (·.1)).Nodup → putR Try.prog 3 (.int .i64 s) (v b) (l.map g) = some ((putK s b l).map g)
 | [], _ => by simp [putR, putK, hg]
 | x :: l, hn => by
  rw [List.map_cons, List.nodup_cons] at hn
  have ih := put_key hg s b l hn.2
  have hf := find_key hg s l hn.2
  rw [List.map_cons, hg x]
  simp only [putR, keyI_eq, putK]
  by_cases h : x.1 = s
  ·subst h
   rw [getK_none.2 hn.1] at hf
   have hb : Instr.sameBits 10000 (.int .i64 x.1) (.int .i64 x.1) = true := by unfold Instr.sameBits; simp
   simp [hf, hb, hg]
  ·have h2 : (s == x.1) = false := by simp; exact fun e => h e.symm
   simp [h2, ih, h, hf, hg]
theorem del_key (hg : ∀ x, g x = [.v (.int .i64 x.1), v x.2]) (s : Int) : ∀ (l : List (Int × β)), (l.map (·.1)).Nodup → delR Try.prog 3 (.int .i64 s) (l.map g) = some ((delK s l).map g)
 | [], _ => rfl
 | x :: l, hn => by
  rw [List.map_cons, List.nodup_cons] at hn
  have ih := del_key hg s l hn.2
  have hf := find_key hg s l hn.2
  rw [List.map_cons, hg x]
  unfold delK at ih ⊢
  rw [List.filter_cons]
  simp only [delR, keyI_eq]
  by_cases h : x.1 = s
  ·subst h
   have hno := getK_none.2 hn.1
   rw [hno] at hf
   have he : l.filter (fun y => decide (y.1 ≠ x.1)) = l := by
    rw [List.filter_eq_self]
    intro y hy
    simp
    intro e
    exact hn.1 (List.mem_map.2 ⟨y, hy, e⟩)
   simp [hf]
   exact congrArg (List.map g) (by simpa using he.symm)
  ·have h2 : (s == x.1) = false := by simp; exact fun e => h e.symm
   simp [h2, ih, h, hf, hg]
theorem putK_set {k : Int} {v : β} : ∀ {l : List (Int × β)}, (l.map (·.1)).Nodup → k ∈ l.map (·.1) → putK k v l = setK k v l
 | [], _, h => by simp at h
 | x :: l, hn, h => by
  rw [List.map_cons, List.nodup_cons] at hn
  unfold putK setK
  rw [List.map_cons]
  by_cases e : x.1 = k
  ·rw [if_pos e, if_pos e, e]
   congr 1
   symm
   rw [← List.map_id l, List.map_map]
   apply List.map_congr_left
   intro y hy
   simp only [Function.comp, id]
   rw [if_neg]
   intro e2
   exact hn.1 (List.mem_map.2 ⟨y, hy, e2.trans e.symm⟩)
  ·rw [if_neg e, if_neg e, putK_set hn.2 (by
    rw [List.map_cons, List.mem_cons] at h
    exact h.resolve_left fun e2 => e e2.symm)]
   rfl
theorem putK_new {k : Int} {v : β} : ∀ {l : List (Int × β)}, k ∉ l.map (·.1) → putK k v l = l ++ [(k, v)]
 | [], _ => rfl
 | x :: l, h => by
  rw [List.map_cons, List.mem_cons] at h
  unfold putK
  rw [if_neg (fun e => h (.inl e.symm)), putK_new fun e => h (.inr e)]
  rfl
end
theorem Rep.find {H : Heap} {mid : Nat} {A : Ab} (r : Rep H mid A) (s : Int) : findR Try.prog 3 (.int .i64 s) (A.sps.map spRow) = some ((getK s A.sps).map spV) :=
 find_key (fun _ => rfl) s _ r.nds
theorem Rep.findE {H : Heap} {mid : Nat} {A : Ab} (r : Rep H mid A) {s : Int} {m : Nat} {es : En} (h : getK s A.sps = some (m, es)) (k : Int) :
  H[m]? = some (some (0, es.map enRow)) ∧ (es.map (·.1)).Nodup ∧ findR Try.prog 3 (.int .i64 k) (es.map enRow) = some ((getK k es).map enV) := by
 have hm := getK_mem h
 exact ⟨r.en _ hm, r.ndk _ hm, find_key (fun _ => rfl) k _ (r.ndk _ hm)⟩
theorem bin_mn {x y : Operand} {id : Nat} : aBin Try.prog .eql 65 x y (.ptr id 0 0 0) (.v (.map none)) = some (.v (.bool false)) := by
 unfold aBin
 simp [Try.underlying65]
end
section
attribute [local simp] pgRow_len pg16 pg17 pg18 pg16' pg17' pg18' ww16 ww17 ww18 keyI_ok aLookup aMapUpdate aDelete lkRes bin_mn spV enV Try.underlying65 Try.underlying55
def spanBad (first n rights : Int) : Prop := first < 0 ∨ 64 ≤ first ∨ n < 1 ∨ 64 - first < n ∨ rights < 0 ∨ 7 < rights
instance (a b c : Int) : Decidable (spanBad a b c) := by unfold spanBad; infer_instance
def spanE (A : Ab) (s first n rights : Int) : Int := match getK s A.sps with
 | none => 4
 | some _ => if spanBad first n rights then 1 else 0
noncomputable def spanM : Row → Heap → Option AVal
 | [.ptr mid 5 0 0, .v (.int .i64 s), .v (.int .i64 first), .v (.int .i64 n), .v (.int .i64 rights)], H => (repAt H mid).map fun A => .v (.int .i64 (spanE A s first n rights))
 | _, _ => none
theorem span_rd : InlOk Try.prog 40 (fun args H => (spanM args H).map (·, H)) := by
 refine inl_canonE Try.func40 rfl fun args H r H' hr => ⟨args, canon_refl args, ?_⟩
 simp only [Option.map_eq_some_iff, Prod.mk.injEq] at hr
 obtain ⟨r0, hr, rfl, rfl⟩ := hr
 unfold spanM at hr
 split at hr
 case h_2 => cases hr
 rename_i mid s first n rights
 simp only [Option.bind_eq_some_iff, Option.map_eq_some_iff] at hr
 obtain ⟨A, hA, rfl⟩ := hr
 obtain ⟨rp, gd⟩ := repAt_iff.1 hA
 have hM := rp.st.mem
 have hS := rp.sp
 have hf := rp.find s
 simp only [Lo.row] at hM
 refine bodyE_of noOrc_ok fxMix (by kernel_rfl) (by simp [Try.ntmps40]) ?_
 intro C cP cI cN cD cF cA cR cL
 replace cI : C.inl = fun _ => false := cI
 replace cR : C.rd = fun _ => none := cR
 replace cD : C.dyn = fun _ => [] := cD
 clear cP cN cF cA
 unfold spanE
 cases hg : getK s A.sps with
 | none =>
  simp [Try.ntmps40, Try.results40, cSl, cI, cD, cR, hM, hS, hf, hg]
  exact Ent.refl _ _
 | some x =>
  by_cases hb : spanBad first n rights
  ·simp only [hb, if_true]
   unfold spanBad at hb
   by_cases h1 : first < 0
   ·simp [Try.ntmps40, Try.results40, cSl, cI, cD, cR, hM, hS, hf, hg, spV, h1]
    exact Ent.refl _ _
   ·by_cases h2 : 64 ≤ first
    ·simp [Try.ntmps40, Try.results40, cSl, cI, cD, cR, hM, hS, hf, hg, spV, h1, h2]
     exact Ent.refl _ _
    ·by_cases h3 : n < 1
     ·simp [Try.ntmps40, Try.results40, cSl, cI, cD, cR, hM, hS, hf, hg, spV, h1, h2, h3]
      exact Ent.refl _ _
     ·have hw : IntKind.i64.wrap (64 - first) = 64 - first := w64 (by omega) (by omega)
      by_cases h4 : 64 - first < n
      ·simp [Try.ntmps40, Try.results40, cSl, cI, cD, cR, hM, hS, hf, hg, spV, h1, h2, h3, hw, h4]
       exact Ent.refl _ _
      ·by_cases h5 : rights < 0
       ·simp [Try.ntmps40, Try.results40, cSl, cI, cD, cR, hM, hS, hf, hg, spV, h1, h2, h3, hw, h4, h5]
        exact Ent.refl _ _
       ·have h6 : 7 < rights := by omega
        simp [Try.ntmps40, Try.results40, cSl, cI, cD, cR, hM, hS, hf, hg, spV, h1, h2, h3, hw, h4, h5, h6]
        exact Ent.refl _ _
  ·simp only [hb, if_false]
   unfold spanBad at hb
   have hw : IntKind.i64.wrap (64 - first) = 64 - first := w64 (by omega) (by omega)
   have h1 : ¬ first < 0 := by omega
   have h2 : ¬ 64 ≤ first := by omega
   have h3 : ¬ n < 1 := by omega
   have h4 : ¬ 64 - first < n := by omega
   have h5 : ¬ rights < 0 := by omega
   have h6 : ¬ 7 < rights := by omega
   simp [Try.ntmps40, Try.results40, cSl, cI, cD, cR, hM, hS, hf, hg, spV, h1, h2, h3, hw, h4, h5, h6]
   exact Ent.refl _ _
end
section
attribute [local simp] pgRow_len pg16 pg17 pg18 pg16' pg17' pg18' ww16 ww17 ww18 keyI_ok aLookup aMapUpdate aDelete lkRes bin_mn spV enV Try.underlying65 Try.underlying55
def okE (es : En) (want : Int) (k : Int) : Bool := match getK k es with
 | some x => iand .i64 x.2 want == want
 | none => false
def mayN (es : En) (want : Int) : Nat → Nat → Nat
 | _, 0 => 0
 | a, m + 1 => if okE es want a = true then mayN es want (a + 1) m + 1 else 1
def mayB (es : En) (want : Int) : Nat → Nat → Bool
 | _, 0 => true
 | a, m + 1 => okE es want a && mayB es want (a + 1) m
def mayR (es : En) (want addr n : Int) : Bool × Nat :=
 if n = 0 then (true, 0) else if addr < 0 ∨ 1024 - n < addr then (false, 0) else
  (mayB es want (addr / 16).toNat ((addr + n - 1) / 16 + 1 - addr / 16).toNat, mayN es want (addr / 16).toNat ((addr + n - 1) / 16 + 1 - addr / 16).toNat)
noncomputable def mayM : Row → Heap → Option (AVal × Heap)
 | [.ptr mid 5 0 0, .v (.int .i64 s), .v (.int .i64 addr), .v (.int .i64 n), .v (.int .i64 want)], H => (repAt H mid).bind fun A => (getK s A.sps).bind fun x => if 0 ≤ n ∧ n ≤ 256 then some (.v (.bool (mayR x.2 want addr n).1), H ++ List.replicate (mayR x.2 want addr n).2 none) else none
 | _, _ => none
theorem Ent.box {n0 : Nat} {ρ : Env} {H : Heap} {o : Option (Nat × List Row)} {j : Nat} : Ent n0 (ρ, H ++ List.replicate (j + 1) none) (ρ, H ++ (List.replicate j none ++ [o])) := by
 have k := Ent.kill (n0 := n0) (ρ := ρ) (H := H ++ (List.replicate j none ++ [o])) (H.length + j)
 rw [List.set_append_right _ _ (by omega), Nat.add_sub_cancel_left, List.set_append_right _ _ (by simp), List.length_replicate, Nat.sub_self, List.set_cons_zero] at k
 rw [List.replicate_succ']
 exact k
theorem may_inl : InlOk Try.prog 29 mayM := by
 refine inl_canonE Try.func29 rfl fun args H r H' hr => ⟨args, canon_refl args, ?_⟩
 unfold mayM at hr
 split at hr
 case h_2 => cases hr
 rename_i mid s addr n want
 simp only [Option.bind_eq_some_iff, Option.map_eq_some_iff] at hr
 obtain ⟨A, hA, ⟨mp, es⟩, hg, hr⟩ := hr
 split at hr
 case isFalse => cases hr
 rename_i hn
 simp only [Option.some.injEq, Prod.mk.injEq] at hr
 obtain ⟨rfl, rfl⟩ := hr
 obtain ⟨rp, gd⟩ := repAt_iff.1 hA
 have hM := rp.st.mem
 have hml : mid < H.length := rp.st.lt cell_m
 have hS := rp.sp
 have hsl : A.lo.sid < H.length := (List.getElem?_eq_some_iff.1 hS).1
 have hf := rp.find s
 obtain ⟨hE, _, _⟩ := rp.findE hg 0
 have hel : mp < H.length := (List.getElem?_eq_some_iff.1 hE).1
 have hfe := fun k => (rp.findE hg k).2.2
 have gM := (List.getElem?_eq_some_iff.1 hM).2
 have gS := (List.getElem?_eq_some_iff.1 hS).2
 have gE := (List.getElem?_eq_some_iff.1 hE).2
 simp only [Lo.row] at hM gM
 refine bodyE_of noOrc_ok fxMix (by kernel_rfl) (by simp [Try.ntmps29]) ?_
 intro C cP cI cN cD cF cA cR cL
 replace cI : C.inl = fun _ => false := cI
 replace cR : C.rd = fun _ => none := cR
 replace cD : C.dyn = fun _ => [] := cD
 clear cP cN cF cA
 simp only [mayR]
 by_cases h0 : n = 0
 ·simp [Try.ntmps29, Try.results29, cSl, cI, cD, cR, h0]
  exact Ent.refl _ _
 ·simp only [h0, if_false]
  have hw1 : IntKind.i64.wrap (1024 - n) = 1024 - n := w64 (by omega) (by omega)
  by_cases h1 : addr < 0
  ·simp only [h1, true_or, if_true]
   simp [Try.ntmps29, Try.results29, cSl, cI, cD, cR, h0, h1]
   exact Ent.refl _ _
  ·by_cases h2 : 1024 - n < addr
   ·simp only [h2, or_true, if_true]
    simp [Try.ntmps29, Try.results29, cSl, cI, cD, cR, h0, h1, h2, hw1]
    exact Ent.refl _ _
   ·rw [if_neg (by omega)]
    have hw2 : IntKind.i64.wrap (addr + n) = addr + n := w64 (by omega) (by omega)
    have hw3 : IntKind.i64.wrap (addr + n - 1) = addr + n - 1 := w64 (by omega) (by omega)
    have hd1 : Int.tdiv addr 16 = addr / 16 := Int.tdiv_eq_ediv_of_nonneg (by omega)
    have hd2 : Int.tdiv (addr + n - 1) 16 = (addr + n - 1) / 16 := Int.tdiv_eq_ediv_of_nonneg (by omega)
    obtain ⟨a, ha⟩ := Int.eq_ofNat_of_zero_le (show 0 ≤ addr / 16 by omega)
    obtain ⟨b, hb⟩ := Int.eq_ofNat_of_zero_le (show 0 ≤ (addr + n - 1) / 16 by omega)
    have hab : a ≤ b ∧ b < 64 := by omega
    rw [ha, hb]
    have e1 : ((a : Int)).toNat = a := by omega
    have e2 : ((b : Int) + 1 - a).toNat = b + 1 - a := by omega
    rw [e1, e2]
    have hwa : IntKind.i64.wrap (a : Int) = a := w64 (by omega) (by omega)
    have hwb : IntKind.i64.wrap (b : Int) = b := w64 (by omega) (by omega)
    simp [Try.ntmps29, Try.results29, cSl, cI, cD, cR, h0, h1, h2, hw1, hd1, ha, hwa]
    refine loop_ent (σ := {j : Nat // a + j ≤ b + 1 ∧ mayB es want a (b + 1 - a) = mayB es want (a + j) (b + 1 - a - j) ∧ mayN es want a (b + 1 - a) = j + mayN es want (a + j) (b + 1 - a - j)}) (fun j => ([(0, .ptr mid 5 0 0), (1, .v (.int .i64 s)), (2, .v (.int .i64 addr)), (3, .v (.int .i64 n)), (4, .v (.int .i64 want)), (11, .v (.int .i64 ((a + j.val : Nat) : Int)))], H ++ List.replicate j.val none)) (fun j => b + 1 - (a + j.val)) ⟨0, by omega, by simp, by simp⟩ ?_ ?_
    ·simp only [List.replicate_zero, List.append_nil]
     exact Ent.env (by simp)
    ·rintro ⟨j, hj1, hj2, hj3⟩
     by_cases hjb : a + j ≤ b
     ·have hlt : (a : Int) + j ≤ (b : Int) := by omega
      have hnx : b + 1 - a - j = (b + 1 - a - (j + 1)) + 1 := by omega
      rw [hnx] at hj2 hj3
      simp only [mayB, mayN] at hj2 hj3
      have hwj : IntKind.i64.wrap ((a : Int) + j + 1) = (a : Int) + j + 1 := w64 (by omega) (by omega)
      have hfk := hfe ((a : Int) + j)
      have hcast : ((a + j : Nat) : Int) = (a : Int) + j := by simp
      cases hk : getK ((a : Int) + j) es with
      | none =>
       have hok : okE es want ((a + j : Nat) : Int) = false := by simp [okE, hk]
       rw [hok] at hj2 hj3
       simp [Try.ntmps29, Try.results29, cSl, cI, cD, cR, hw2, hw3, hd2, hb, hwb, hlt, hM, hS, hf, hg, hE, hfk, hk, hml, hsl, hel, gM, gS, gE, List.getElem?_append, List.set_append]
       rw [hj2, hj3]
       exact Ent.box
      | some x =>
       obtain ⟨p, rg⟩ := x
       by_cases hr : iand .i64 rg want = want
       ·have hok : okE es want ((a + j : Nat) : Int) = true := by simp [okE, hk, hr]
        rw [hok] at hj2 hj3
        simp [Try.ntmps29, Try.results29, cSl, cI, cD, cR, hw2, hw3, hd2, hb, hwb, hlt, hM, hS, hf, hg, hE, hfk, hk, hml, hsl, hel, gM, gS, gE, List.getElem?_append, List.set_append, hr, hwj]
        refine ⟨⟨j + 1, by omega, by simpa [Nat.sub_sub, Nat.add_assoc] using hj2, by rw [hj3]; simp [Nat.sub_sub, Nat.add_assoc]; omega⟩, by simp only; omega, Ent.trans (Ent.env ?_) Ent.box⟩
        simp
        omega
       ·have hok : okE es want ((a + j : Nat) : Int) = false := by simp [okE, hk, hr]
        rw [hok] at hj2 hj3
        simp [Try.ntmps29, Try.results29, cSl, cI, cD, cR, hw2, hw3, hd2, hb, hwb, hlt, hM, hS, hf, hg, hE, hfk, hk, hml, hsl, hel, gM, gS, gE, List.getElem?_append, List.set_append, hr]
        rw [hj2, hj3]
        exact Ent.box
     ·have hnl : ¬ (a : Int) + j ≤ (b : Int) := by omega
      have hz : b + 1 - a - j = 0 := by omega
      rw [hz] at hj2 hj3
      simp [Try.ntmps29, Try.results29, cSl, cI, cD, cR, hw2, hw3, hd2, hb, hwb, hnl]
      rw [hj2, hj3]
      exact Ent.refl _ _
end
section
attribute [local simp] pgRow_len pg16 pg17 pg18 pg16' pg17' pg18' ww16 ww17 ww18 keyI_ok aLookup aMapUpdate aDelete lkRes bin_mn spV enV Try.underlying65 Try.underlying55
def othE (L : Lo) (es : En) (k : Int) : Bool := match getK k es with
 | some x => match getK x.1 L.pgs with
  | some q => decide (1 < q.users)
  | none => false
 | none => false
def shN (L : Lo) (es : En) : Nat → Nat → Nat
 | _, 0 => 0
 | a, m + 1 => (if othE L es a = true then 1 else 0) + shN L es (a + 1) m
theorem shN_le (L : Lo) (es : En) : ∀ m a, shN L es a m ≤ m
 | 0, _ => Nat.le_refl _
 | m + 1, a => by
  have := shN_le L es m (a + 1)
  unfold shN
  split <;> omega
def spanK (es : En) (addr n : Int) : Prop := (n = 0 ∧ IntKind.i64.wrap addr = addr) ∨ (0 < n ∧ n ≤ 256 ∧ 0 ≤ addr ∧ addr + n ≤ 1024 ∧ ∀ j : Nat, addr / 16 ≤ j → (j : Int) ≤ (addr + n - 1) / 16 → (getK (j : Int) es).isSome = true)
noncomputable def shM : Row → Heap → Option AVal
 | [.ptr mid 5 0 0, .v (.int .i64 s), .v (.int .i64 addr), .v (.int .i64 n)], H => (repAt H mid).bind fun A => (getK s A.sps).bind fun x => @ite _ (spanK x.2 addr n) (Classical.propDecidable _) (some (.v (.int .i64 (if n = 0 then 0 else (shN A.lo x.2 (addr / 16).toNat ((addr + n - 1) / 16 + 1 - addr / 16).toNat : Nat))))) none
 | _, _ => none
theorem Good.page {A : Ab} (g : Good A) {s : Int} {mp : Nat} {es : En} (h : getK s A.sps = some (mp, es)) {k : Int} {p : Nat} {rg : Int} (hk : getK k es = some (p, rg)) : ∃ q, getK p A.lo.pgs = some q := by
 have := g.pg _ (getK_mem h) _ (getK_mem hk)
 cases e : getK p A.lo.pgs with
 | none => exact absurd this (getK_none.1 e)
 | some q => exact ⟨q, rfl⟩
theorem sh_rd : InlOk Try.prog 46 (fun args H => (shM args H).map (·, H)) := by
 refine inl_canonE Try.func46 rfl fun args H r H' hr => ⟨args, canon_refl args, ?_⟩
 simp only [Option.map_eq_some_iff, Prod.mk.injEq] at hr
 obtain ⟨r0, hr, rfl, rfl⟩ := hr
 unfold shM at hr
 split at hr
 case h_2 => cases hr
 rename_i mid s addr n
 simp only [Option.bind_eq_some_iff, Option.map_eq_some_iff] at hr
 obtain ⟨A, hA, ⟨mp, es⟩, hg, hr⟩ := hr
 split at hr
 case isFalse => cases hr
 rename_i hsk
 simp only [Option.some.injEq] at hr
 subst hr
 obtain ⟨rp, gd⟩ := repAt_iff.1 hA
 have hM := rp.st.mem
 have hS := rp.sp
 have hf := rp.find s
 obtain ⟨hE, _, _⟩ := rp.findE hg 0
 have hfe := fun k => (rp.findE hg k).2.2
 simp only [Lo.row] at hM
 refine bodyE_of noOrc_ok fxMix (by kernel_rfl) (by simp [Try.ntmps46]) ?_
 intro C cP cI cN cD cF cA cR cL
 replace cI : C.inl = fun _ => false := cI
 replace cR : C.rd = fun _ => none := cR
 replace cD : C.dyn = fun _ => [] := cD
 clear cP cN cF cA
 by_cases h0 : n = 0
 ·simp only [h0, if_true]
  simp [Try.ntmps46, Try.results46, cSl, cI, cD, cR]
  refine loop_rounds 1 ?_
  simp [Try.ntmps46, Try.results46, cSl, cI, cD, cR, UnrK]
  exact Ent.refl _ _
 ·rcases hsk with ⟨h, _⟩ | ⟨k1, k2, k3, k4, k5⟩
  ·exact absurd h h0
  simp only [h0, if_false]
  have hw2 : IntKind.i64.wrap (addr + n) = addr + n := w64 (by omega) (by omega)
  have hw3 : IntKind.i64.wrap (addr + n - 1) = addr + n - 1 := w64 (by omega) (by omega)
  have hd1 : Int.tdiv addr 16 = addr / 16 := Int.tdiv_eq_ediv_of_nonneg (by omega)
  have hd2 : Int.tdiv (addr + n - 1) 16 = (addr + n - 1) / 16 := Int.tdiv_eq_ediv_of_nonneg (by omega)
  obtain ⟨a, ha⟩ := Int.eq_ofNat_of_zero_le (show 0 ≤ addr / 16 by omega)
  obtain ⟨b, hb⟩ := Int.eq_ofNat_of_zero_le (show 0 ≤ (addr + n - 1) / 16 by omega)
  have hab : a ≤ b ∧ b < 64 := by omega
  rw [ha, hb] at k5 ⊢
  have e1 : ((a : Int)).toNat = a := by omega
  have e2 : ((b : Int) + 1 - a).toNat = b + 1 - a := by omega
  rw [e1, e2]
  have hwa : IntKind.i64.wrap (a : Int) = a := w64 (by omega) (by omega)
  have hwb : IntKind.i64.wrap (b : Int) = b := w64 (by omega) (by omega)
  simp [Try.ntmps46, Try.results46, cSl, cI, cD, cR, hd1, ha, hwa]
  refine loop_ent (σ := {j : Nat × Nat // a + j.1 ≤ b + 1 ∧ shN A.lo es a (b + 1 - a) = j.2 + shN A.lo es (a + j.1) (b + 1 - a - j.1)}) (fun j => ([(0, .ptr mid 5 0 0), (1, .v (.int .i64 s)), (2, .v (.int .i64 addr)), (3, .v (.int .i64 n)), (9, .v (.int .i64 (j.val.2 : Nat))), (10, .v (.int .i64 ((a + j.val.1 : Nat) : Int)))], H)) (fun j => b + 1 - (a + j.val.1)) ⟨(0, 0), by omega, by simp⟩ ?_ ?_
  ·exact Ent.env (by simp)
  ·rintro ⟨⟨j, c⟩, hj1, hj2⟩
   simp only at hj1 hj2
   have hn0 : 0 < n := k1
   have hcl := shN_le A.lo es (b + 1 - a) a
   by_cases hjb : a + j ≤ b
   ·have hlt : (a : Int) + j ≤ (b : Int) := by omega
    have hnx : b + 1 - a - j = (b + 1 - a - (j + 1)) + 1 := by omega
    rw [hnx] at hj2
    simp only [shN] at hj2
    have hwj : IntKind.i64.wrap ((a : Int) + j + 1) = (a : Int) + j + 1 := w64 (by omega) (by omega)
    have hwc : IntKind.i64.wrap ((c : Int) + 1) = (c : Int) + 1 := w64 (by omega) (by omega)
    have hfk := hfe ((a : Int) + j)
    have hcast : ((a + j : Nat) : Int) = (a : Int) + j := by simp
    have hsome := k5 (a + j) (by omega) (by omega)
    rw [hcast] at hsome hj2
    obtain ⟨⟨p, rg⟩, hk⟩ := Option.isSome_iff_exists.1 hsome
    obtain ⟨q, hq⟩ := Good.page gd hg hk
    obtain ⟨hP, hd⟩ := rp.st.pg hq
    by_cases hu : 1 < q.users
    ·have hok : othE A.lo es ((a : Int) + j) = true := by simp [othE, hk, hq, hu]
     rw [hok] at hj2
     simp [Try.ntmps46, Try.results46, cSl, cI, cD, cR, hw2, hw3, hd2, hb, hwb, hlt, hM, hS, hf, hg, hE, hfk, hk, hP, hd, hu, hwj, hwc, hn0]
     refine ⟨⟨(j + 1, c + 1), by simp only; omega, ?_⟩, by simp only; omega, Ent.env ?_⟩
     ·simp only
      rw [hj2]
      simp [Nat.sub_sub, Nat.add_assoc]
     ·simp
      omega
    ·have hok : othE A.lo es ((a : Int) + j) = false := by simp [othE, hk, hq, hu]
     rw [hok] at hj2
     simp [Try.ntmps46, Try.results46, cSl, cI, cD, cR, hw2, hw3, hd2, hb, hwb, hlt, hM, hS, hf, hg, hE, hfk, hk, hP, hd, hu, hwj, hn0]
     refine ⟨⟨(j + 1, c), by simp only; omega, ?_⟩, by simp only; omega, Ent.env ?_⟩
     ·simp only
      rw [hj2]
      simp [Nat.sub_sub, Nat.add_assoc]
     ·simp
      omega
   ·have hnl : ¬ (a : Int) + j ≤ (b : Int) := by omega
    have hz : b + 1 - a - j = 0 := by omega
    rw [hz] at hj2
    simp only [shN, Nat.add_zero] at hj2
    simp [Try.ntmps46, Try.results46, cSl, cI, cD, cR, hw2, hw3, hd2, hb, hwb, hnl, hn0]
    rw [hj2]
    exact Ent.refl _ _
end
end
end Go.Proofs.Ytibpipgabcpaoaa
