/- Items gone one by one: plain theory. -/
import Derived.Test.YtigpgieapamffaaReD
import Derived.Test.YtigpgieapamffaaSoZ
namespace Go.Proofs.Ytigpgieapamffaa
open Go.AI Go.Sort
/-- who may go -/
def free (l : List Item) : List Int := (l.filter (fun x => !x.pinned)).map (·.id)
theorem lookd_free (l : List Item) (h j : Nat) : free (lookd l h j) = free l := by
  have key : ∀ (l : List Item) (F : Nat → Bool), ((l.mapIdx fun i x => if F i = true then mkI x else x).filter (fun x => !x.pinned)).map (·.id) = (l.filter (fun x => !x.pinned)).map (·.id) := by
    intro l
    induction l with
    | nil => intro F; rfl
    | cons a l ih =>
      intro F
      rw [List.mapIdx_cons, List.filter_cons, List.filter_cons]
      have e1 : (if F 0 = true then mkI a else a).pinned = a.pinned := by split <;> rfl
      have e2 : (if F 0 = true then mkI a else a).id = a.id := by split <;> rfl
      rw [e1]
      have := ih (fun i => F (i + 1))
      split
      · rw [List.map_cons, List.map_cons, e2, this]
      · exact this
  have := key l (fun i => decide (off l.length h i < j))
  unfold free lookd
  rw [← this]
  congr 2
  simp
theorem free_erase {l : List Item} {p : Nat} (hp : p < l.length) (hf : (l[p]).pinned = false) : (free l).Perm ((l[p]).id :: free (l.eraseIdx p)) := by
  have h1 : l.Perm (l[p] :: l.eraseIdx p) := by
    rw [List.eraseIdx_eq_take_drop_succ]
    conv => lhs; rw [← List.take_append_drop p l, List.drop_eq_getElem_cons hp]
    exact List.perm_middle
  have h2 := (h1.filter (fun x => !x.pinned)).map (·.id)
  rw [List.filter_cons, hf] at h2
  exact h2
theorem next_free {l : List Item} {h : Int} {a : Clk} {id n : Int} (hn : clkNext ⟨l, h⟩ = .ok (a, id, n)) : (free l).Perm (id :: free a.items) ∧ clkCheck a = 0 := by
  obtain ⟨k, j, p, rfl, hk, hp, hg, ⟨hpl, hid⟩, _, ha, _, hck, _, _⟩ := next_ok hn
  have hx : l[(k + j) % l.length]? = some l[p] := by rw [← hp]; simp [hpl]
  obtain ⟨p1, _⟩ := hg.pin _ hx
  have hlp : p < (lookd l k j).length := by rw [lookd_len]; exact hpl
  have hge : (lookd l k j)[p].id = l[p].id ∧ (lookd l k j)[p].pinned = l[p].pinned := by
    have := lookd_get (h := k) (j := j) hpl
    rw [List.getElem?_eq_getElem hlp, Option.some.injEq] at this
    rw [this]
    split <;> exact ⟨rfl, rfl⟩
  have h3 := free_erase hlp (by rw [hge.2]; exact p1)
  rw [lookd_free, hge.1, ← hid, ← ha] at h3
  exact ⟨h3, hck⟩
theorem next_some {c : Clk} (hc : clkCheck c = 0) (hf : free c.items ≠ []) : ∃ q, clkNext c = .ok q := by
  obtain ⟨l, h⟩ := c
  have hany : (l.any fun x => !x.pinned) = true := by
    rw [List.any_eq_true]
    obtain ⟨i, hi⟩ := List.exists_mem_of_ne_nil _ hf
    unfold free at hi
    obtain ⟨x, hx, _⟩ := List.mem_map.1 hi
    exact ⟨x, (List.mem_filter.1 hx).1, (List.mem_filter.1 hx).2⟩
  obtain ⟨g1, g2, g3, g4⟩ := clk_ok.1 hc
  simp only at g1 g2 g3 g4
  have hu : ∃ x ∈ l, x.pinned = false := by simpa using hany
  have hpos : 0 < l.length := by obtain ⟨x, hx, _⟩ := hu; exact List.length_pos_of_mem hx
  obtain ⟨k0, rfl⟩ := Int.eq_ofNat_of_zero_le g2
  obtain ⟨jj, xx, hg, hx, hr⟩ := next_char (h := k0) (by omega) hu
  unfold clkNext
  rw [if_pos hc, if_pos hany, Int.toNat_natCast, hr]
  exact ⟨_, rfl⟩
theorem next_done {c : Clk} (hc : clkCheck c = 0) (hf : free c.items = []) : clkNext c = .error 6 := by
  unfold clkNext
  rw [if_pos hc, if_neg]
  intro hany
  rw [List.any_eq_true] at hany
  obtain ⟨x, hx, hp⟩ := hany
  have : x.id ∈ free c.items := List.mem_map.2 ⟨x, List.mem_filter.2 ⟨hx, hp⟩, rfl⟩
  rw [hf] at this; cases this
theorem sortZ_eq {a b : List Int} (h : a.Perm b) : sortZ a = sortZ b :=
  List.Perm.eq_of_pairwise (le := (· ≤ ·)) (fun _ _ _ _ p q => Int.le_antisymm p q) (sortZ_sorted a) (sortZ_sorted b) ((sortZ_perm a).trans (h.trans (sortZ_perm b).symm))
theorem free_len (l : List Item) : (free l).length ≤ l.length := by unfold free; rw [List.length_map]; exact List.length_filter_le _ _
theorem free_next {l : List Item} {k : Nat} (hk : k < l.length) : free (l.take (k + 1)) = free (l.take k) ++ (if (l[k]).pinned = true then [] else [(l[k]).id]) := by
  unfold free
  rw [List.take_succ_eq_append_getElem hk, List.filter_append, List.map_append]
  congr 1
  cases h : (l[k]).pinned <;> simp [h]
end Go.Proofs.Ytigpgieapamffaa
