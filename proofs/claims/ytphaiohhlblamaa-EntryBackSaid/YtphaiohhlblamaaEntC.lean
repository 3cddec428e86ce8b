/- Entries and words: one to one. -/
import Derived.Test.YtphaiohhlblamaaEntA
namespace Go.Proofs.Ytphaiohhlblamaa
open Go.AI
def eqE (x y : Entry) : Bool := x.here == y.here && x.slot == y.slot && x.at_ == y.at_ && x.rights == y.rights && x.used == y.used && x.dirty == y.dirty && x.copy == y.copy
theorem eqE_eq {x y : Entry} (h : eqE x y = true) : x = y := by
  obtain ⟨a, b, c, d, e, f, g⟩ := x
  obtain ⟨a', b', c', d', e', f', g'⟩ := y
  simp only [eqE, Bool.and_eq_true, beq_iff_eq] at h
  obtain ⟨⟨⟨⟨⟨⟨rfl, rfl⟩, rfl⟩, rfl⟩, rfl⟩, rfl⟩, rfl⟩ := h
  rfl
def bs : List Bool := [false, true]
theorem bs_mem (b : Bool) : b ∈ bs := by cases b <;> simp [bs]
def all1 : Bool := (List.range 8).all fun r => (List.range 64).all fun a => bs.all fun h => bs.all fun s => bs.all fun u => bs.all fun d => bs.all fun c => eqE (ofWord ((Entry.mk h s (Int.ofNat a) (Int.ofNat r) u d c).wk 5)) (Entry.mk h s (Int.ofNat a) (Int.ofNat r) u d c)
theorem all1_ok : all1 = true := by kernel_rfl
def all2 : Bool := (List.range 16384).all fun w => (ofWord (Int.ofNat w)).wk 5 == Int.ofNat w
theorem all2_ok : all2 = true := by kernel_rfl

theorem chk_range {x : Entry} (h : x.chk = 0) : 0 ≤ x.rights ∧ x.rights ≤ 7 ∧ 0 ≤ x.at_ ∧ x.at_ < 64 := by
  unfold Entry.chk at h
  split at h
  · omega
  · omega

theorem of_word {x : Entry} (h : x.chk = 0) : ofWord (x.wk 5) = x := by
  obtain ⟨h1, h2, h3, h4⟩ := chk_range h
  obtain ⟨he, s, a, r, u, d, c⟩ := x
  simp only at h1 h2 h3 h4
  obtain ⟨r, rfl⟩ := Int.eq_ofNat_of_zero_le h1
  obtain ⟨a, rfl⟩ := Int.eq_ofNat_of_zero_le h3
  have h := all1_ok
  unfold all1 at h
  simp only [List.all_eq_true] at h
  exact eqE_eq (h r (by simp; omega) a (by simp; omega) he (bs_mem _) s (bs_mem _) u (bs_mem _) d (bs_mem _) c (bs_mem _))

theorem word_of {w : Int} (h0 : 0 ≤ w) (hl : w < 16384) : (ofWord w).wk 5 = w := by
  obtain ⟨w, rfl⟩ := Int.eq_ofNat_of_zero_le h0
  have h := all2_ok
  unfold all2 at h
  simp only [List.all_eq_true] at h
  exact beq_iff_eq.1 (h w (by simp; omega))

theorem word_small {w : Int} (h0 : 0 ≤ w) (hl : w ≤ 4294967295) (h : (ofWord w).chk = 0) : w < 16384 := by
  have := (chk_range h).2.2.2
  simp only [ofWord] at this
  have e : ishr .u32 w 8 = w / 256 := by
    simp only [ishr, IntKind.bits]
    have : (2 : Int) ^ (min (8 : Int).toNat 32) = 256 := by decide
    rw [this, Int.fdiv_eq_ediv_of_nonneg _ (by omega)]
  rw [e, w64 (by omega) (by omega)] at this
  omega
end Go.Proofs.Ytphaiohhlblamaa
