/- The rounds of the law's loop, one by one. Printed by a program. -/
import Derived.Test.YtdakclpneghkmaaGreatDoorEn
import Derived.Test.YtdakclpneghkmaaGreatDoorSA
import Derived.Test.YtdakclpneghkmaaGreatDoorSB
import Derived.Test.YtdakclpneghkmaaGreatDoorSC
import Derived.Test.YtdakclpneghkmaaGreatDoorSD
import Derived.Test.YtdakclpneghkmaaGreatDoorSE
import Derived.Test.YtdakclpneghkmaaGreatDoorSF
import Derived.Test.YtdakclpneghkmaaGreatDoorSG
import Derived.Test.YtdakclpneghkmaaGreatDoorSH
import Derived.Test.YtdakclpneghkmaaGreatDoorEA
import Derived.Test.YtdakclpneghkmaaGreatDoorEB
import Derived.Test.YtdakclpneghkmaaGreatDoorEC
import Derived.Test.YtdakclpneghkmaaGreatDoorED
namespace Go.Proofs.GD
open Go Go.AI Go.RowKit
set_option maxRecDepth 100000
def tI : Nat → Nat
  | 0 => 0
  | 1 => 2928
  | k + 2 => 3152 + 203 * k
def eI : Nat → Nat
  | 0 => 0
  | 1 => 2938
  | k + 2 => 3161 + 203 * k
def mI : Nat → Nat
  | 0 => 0
  | 1 => 2981
  | k + 2 => 3185 + 203 * k
def dI : Nat → Nat
  | 0 => 0
  | 1 => 2937
  | k + 2 => 3160 + 203 * k
def alI : Nat → Nat
  | 0 => 0
  | 1 => 3130
  | k + 2 => 3333 + 203 * k
def szI : Nat → Nat
  | 0 => 2907
  | 1 => 3131
  | k + 2 => 3334 + 203 * k
/-- the state behind so many rounds -/
noncomputable def SI (c : Nat → Int) : Nat → LS
  | 0 => st0 (.v (.int .i64 0)) (.v (.int .i64 0))
  | i + 1 => stL (.anyi .i64) (.anyi .i64) (tI (i + 1)) (eI (i + 1)) (mI (i + 1)) (dI (i + 1)) (alI (i + 1)) (i + 1) c
def alV : Nat → AVal
  | 0 => .v (.slice none 0 0)
  | i + 1 => .osl (alI (i + 1)) 1 0 (i + 1) (i + 1)
theorem okS (c : Nat → Int) : ∀ i, i ≤ 30 → okLS (szI i) (SI c i) = true
  | 0, _ => by kernel_rfl
  | 1, _ => by kernel_rfl
  | 2, _ => by kernel_rfl
  | 3, _ => by kernel_rfl
  | 4, _ => by kernel_rfl
  | 5, _ => by kernel_rfl
  | 6, _ => by kernel_rfl
  | 7, _ => by kernel_rfl
  | 8, _ => by kernel_rfl
  | 9, _ => by kernel_rfl
  | 10, _ => by kernel_rfl
  | 11, _ => by kernel_rfl
  | 12, _ => by kernel_rfl
  | 13, _ => by kernel_rfl
  | 14, _ => by kernel_rfl
  | 15, _ => by kernel_rfl
  | 16, _ => by kernel_rfl
  | 17, _ => by kernel_rfl
  | 18, _ => by kernel_rfl
  | 19, _ => by kernel_rfl
  | 20, _ => by kernel_rfl
  | 21, _ => by kernel_rfl
  | 22, _ => by kernel_rfl
  | 23, _ => by kernel_rfl
  | 24, _ => by kernel_rfl
  | 25, _ => by kernel_rfl
  | 26, _ => by kernel_rfl
  | 27, _ => by kernel_rfl
  | 28, _ => by kernel_rfl
  | 29, _ => by kernel_rfl
  | 30, _ => by kernel_rfl
  | i + 31, h => by omega
theorem absD (c : Nat → Int) : ∀ i, i ≤ 30 → absO (toO (dataO (bs c i))) = some (1, rowsD c i)
  | 0, _ => by kernel_rfl
  | 1, _ => by kernel_rfl
  | 2, _ => by kernel_rfl
  | 3, _ => by kernel_rfl
  | 4, _ => by kernel_rfl
  | 5, _ => by kernel_rfl
  | 6, _ => by kernel_rfl
  | 7, _ => by kernel_rfl
  | 8, _ => by kernel_rfl
  | 9, _ => by kernel_rfl
  | 10, _ => by kernel_rfl
  | 11, _ => by kernel_rfl
  | 12, _ => by kernel_rfl
  | 13, _ => by kernel_rfl
  | 14, _ => by kernel_rfl
  | 15, _ => by kernel_rfl
  | 16, _ => by kernel_rfl
  | 17, _ => by kernel_rfl
  | 18, _ => by kernel_rfl
  | 19, _ => by kernel_rfl
  | 20, _ => by kernel_rfl
  | 21, _ => by kernel_rfl
  | 22, _ => by kernel_rfl
  | 23, _ => by kernel_rfl
  | 24, _ => by kernel_rfl
  | 25, _ => by kernel_rfl
  | 26, _ => by kernel_rfl
  | 27, _ => by kernel_rfl
  | 28, _ => by kernel_rfl
  | 29, _ => by kernel_rfl
  | 30, _ => by kernel_rfl
  | i + 31, h => by omega
theorem absA (c : Nat → Int) : ∀ i, i ≤ 30 → absO (toO (allO i (bs c i))) = some (1, rowsI c i)
  | 0, _ => by kernel_rfl
  | 1, _ => by kernel_rfl
  | 2, _ => by kernel_rfl
  | 3, _ => by kernel_rfl
  | 4, _ => by kernel_rfl
  | 5, _ => by kernel_rfl
  | 6, _ => by kernel_rfl
  | 7, _ => by kernel_rfl
  | 8, _ => by kernel_rfl
  | 9, _ => by kernel_rfl
  | 10, _ => by kernel_rfl
  | 11, _ => by kernel_rfl
  | 12, _ => by kernel_rfl
  | 13, _ => by kernel_rfl
  | 14, _ => by kernel_rfl
  | 15, _ => by kernel_rfl
  | 16, _ => by kernel_rfl
  | 17, _ => by kernel_rfl
  | 18, _ => by kernel_rfl
  | 19, _ => by kernel_rfl
  | 20, _ => by kernel_rfl
  | 21, _ => by kernel_rfl
  | 22, _ => by kernel_rfl
  | 23, _ => by kernel_rfl
  | 24, _ => by kernel_rfl
  | 25, _ => by kernel_rfl
  | 26, _ => by kernel_rfl
  | 27, _ => by kernel_rfl
  | 28, _ => by kernel_rfl
  | 29, _ => by kernel_rfl
  | 30, _ => by kernel_rfl
  | i + 31, h => by omega
theorem rounds (c : Nat → Int) (d l n : AVal) : ∀ i, i < 30 → ∀ b, ∃ x y, Lss x (.anyi .i64) ∧ Lss y (.anyi .i64) ∧ obs (run4 qS (envS b (c i) (alV i) i d l n) (mkT (szI i) (SI c i))) (szI (i + 1)) (laterL (tI (i + 1)) (eI (i + 1)) (mI (i + 1)) (dI (i + 1)) (i + 1) ++ baseL) [dI (i + 1), alI (i + 1), 1530] =
    some (hdG (alV (i + 1)) i d l n, [some (some (1, rowsD c (i + 1))), some (some (1, rowsI c (i + 1))), some (some (328, [opRow x y]))])
  | 0, _, true => ⟨_, _, Lss.int _ _, Lss.int _ _, s0t c d l n⟩
  | 0, _, false => ⟨_, _, Lss.int _ _, Lss.int _ _, s0f c d l n⟩
  | 1, _, true => ⟨_, _, Lss.int _ _, Lss.refl _, s1t c d l n⟩
  | 1, _, false => ⟨_, _, Lss.refl _, Lss.int _ _, s1f c d l n⟩
  | 2, _, true => ⟨_, _, Lss.int _ _, Lss.refl _, s2t c d l n⟩
  | 2, _, false => ⟨_, _, Lss.refl _, Lss.int _ _, s2f c d l n⟩
  | 3, _, true => ⟨_, _, Lss.int _ _, Lss.refl _, s3t c d l n⟩
  | 3, _, false => ⟨_, _, Lss.refl _, Lss.int _ _, s3f c d l n⟩
  | 4, _, true => ⟨_, _, Lss.int _ _, Lss.refl _, s4t c d l n⟩
  | 4, _, false => ⟨_, _, Lss.refl _, Lss.int _ _, s4f c d l n⟩
  | 5, _, true => ⟨_, _, Lss.int _ _, Lss.refl _, s5t c d l n⟩
  | 5, _, false => ⟨_, _, Lss.refl _, Lss.int _ _, s5f c d l n⟩
  | 6, _, true => ⟨_, _, Lss.int _ _, Lss.refl _, s6t c d l n⟩
  | 6, _, false => ⟨_, _, Lss.refl _, Lss.int _ _, s6f c d l n⟩
  | 7, _, true => ⟨_, _, Lss.int _ _, Lss.refl _, s7t c d l n⟩
  | 7, _, false => ⟨_, _, Lss.refl _, Lss.int _ _, s7f c d l n⟩
  | 8, _, true => ⟨_, _, Lss.int _ _, Lss.refl _, s8t c d l n⟩
  | 8, _, false => ⟨_, _, Lss.refl _, Lss.int _ _, s8f c d l n⟩
  | 9, _, true => ⟨_, _, Lss.int _ _, Lss.refl _, s9t c d l n⟩
  | 9, _, false => ⟨_, _, Lss.refl _, Lss.int _ _, s9f c d l n⟩
  | 10, _, true => ⟨_, _, Lss.int _ _, Lss.refl _, s10t c d l n⟩
  | 10, _, false => ⟨_, _, Lss.refl _, Lss.int _ _, s10f c d l n⟩
  | 11, _, true => ⟨_, _, Lss.int _ _, Lss.refl _, s11t c d l n⟩
  | 11, _, false => ⟨_, _, Lss.refl _, Lss.int _ _, s11f c d l n⟩
  | 12, _, true => ⟨_, _, Lss.int _ _, Lss.refl _, s12t c d l n⟩
  | 12, _, false => ⟨_, _, Lss.refl _, Lss.int _ _, s12f c d l n⟩
  | 13, _, true => ⟨_, _, Lss.int _ _, Lss.refl _, s13t c d l n⟩
  | 13, _, false => ⟨_, _, Lss.refl _, Lss.int _ _, s13f c d l n⟩
  | 14, _, true => ⟨_, _, Lss.int _ _, Lss.refl _, s14t c d l n⟩
  | 14, _, false => ⟨_, _, Lss.refl _, Lss.int _ _, s14f c d l n⟩
  | 15, _, true => ⟨_, _, Lss.int _ _, Lss.refl _, s15t c d l n⟩
  | 15, _, false => ⟨_, _, Lss.refl _, Lss.int _ _, s15f c d l n⟩
  | 16, _, true => ⟨_, _, Lss.int _ _, Lss.refl _, s16t c d l n⟩
  | 16, _, false => ⟨_, _, Lss.refl _, Lss.int _ _, s16f c d l n⟩
  | 17, _, true => ⟨_, _, Lss.int _ _, Lss.refl _, s17t c d l n⟩
  | 17, _, false => ⟨_, _, Lss.refl _, Lss.int _ _, s17f c d l n⟩
  | 18, _, true => ⟨_, _, Lss.int _ _, Lss.refl _, s18t c d l n⟩
  | 18, _, false => ⟨_, _, Lss.refl _, Lss.int _ _, s18f c d l n⟩
  | 19, _, true => ⟨_, _, Lss.int _ _, Lss.refl _, s19t c d l n⟩
  | 19, _, false => ⟨_, _, Lss.refl _, Lss.int _ _, s19f c d l n⟩
  | 20, _, true => ⟨_, _, Lss.int _ _, Lss.refl _, s20t c d l n⟩
  | 20, _, false => ⟨_, _, Lss.refl _, Lss.int _ _, s20f c d l n⟩
  | 21, _, true => ⟨_, _, Lss.int _ _, Lss.refl _, s21t c d l n⟩
  | 21, _, false => ⟨_, _, Lss.refl _, Lss.int _ _, s21f c d l n⟩
  | 22, _, true => ⟨_, _, Lss.int _ _, Lss.refl _, s22t c d l n⟩
  | 22, _, false => ⟨_, _, Lss.refl _, Lss.int _ _, s22f c d l n⟩
  | 23, _, true => ⟨_, _, Lss.int _ _, Lss.refl _, s23t c d l n⟩
  | 23, _, false => ⟨_, _, Lss.refl _, Lss.int _ _, s23f c d l n⟩
  | 24, _, true => ⟨_, _, Lss.int _ _, Lss.refl _, s24t c d l n⟩
  | 24, _, false => ⟨_, _, Lss.refl _, Lss.int _ _, s24f c d l n⟩
  | 25, _, true => ⟨_, _, Lss.int _ _, Lss.refl _, s25t c d l n⟩
  | 25, _, false => ⟨_, _, Lss.refl _, Lss.int _ _, s25f c d l n⟩
  | 26, _, true => ⟨_, _, Lss.int _ _, Lss.refl _, s26t c d l n⟩
  | 26, _, false => ⟨_, _, Lss.refl _, Lss.int _ _, s26f c d l n⟩
  | 27, _, true => ⟨_, _, Lss.int _ _, Lss.refl _, s27t c d l n⟩
  | 27, _, false => ⟨_, _, Lss.refl _, Lss.int _ _, s27f c d l n⟩
  | 28, _, true => ⟨_, _, Lss.int _ _, Lss.refl _, s28t c d l n⟩
  | 28, _, false => ⟨_, _, Lss.refl _, Lss.int _ _, s28f c d l n⟩
  | 29, _, true => ⟨_, _, Lss.int _ _, Lss.refl _, s29t c d l n⟩
  | 29, _, false => ⟨_, _, Lss.refl _, Lss.int _ _, s29f c d l n⟩
  | i + 30, h, _ => by omega
theorem ends (c : Nat → Int) (d l n : AVal) : ∀ i, i ≤ 30 → AWp Tryz.prog 109 0 qEnd (retA Tryz.prog Tryz.f4 fun x _ => x = .v (.bool true)) (hdG (alV i) i d l n) (mkH (szI i) (SI c i))
  | 0, h => end_ok0 (okS c 0 h) (e0 d l n)
  | 1, h => end_ok h (okS c 1 h) (e1 c d l n)
  | 2, h => end_ok h (okS c 2 h) (e2 c d l n)
  | 3, h => end_ok h (okS c 3 h) (e3 c d l n)
  | 4, h => end_ok h (okS c 4 h) (e4 c d l n)
  | 5, h => end_ok h (okS c 5 h) (e5 c d l n)
  | 6, h => end_ok h (okS c 6 h) (e6 c d l n)
  | 7, h => end_ok h (okS c 7 h) (e7 c d l n)
  | 8, h => end_ok h (okS c 8 h) (e8 c d l n)
  | 9, h => end_ok h (okS c 9 h) (e9 c d l n)
  | 10, h => end_ok h (okS c 10 h) (e10 c d l n)
  | 11, h => end_ok h (okS c 11 h) (e11 c d l n)
  | 12, h => end_ok h (okS c 12 h) (e12 c d l n)
  | 13, h => end_ok h (okS c 13 h) (e13 c d l n)
  | 14, h => end_ok h (okS c 14 h) (e14 c d l n)
  | 15, h => end_ok h (okS c 15 h) (e15 c d l n)
  | 16, h => end_ok h (okS c 16 h) (e16 c d l n)
  | 17, h => end_ok h (okS c 17 h) (e17 c d l n)
  | 18, h => end_ok h (okS c 18 h) (e18 c d l n)
  | 19, h => end_ok h (okS c 19 h) (e19 c d l n)
  | 20, h => end_ok h (okS c 20 h) (e20 c d l n)
  | 21, h => end_ok h (okS c 21 h) (e21 c d l n)
  | 22, h => end_ok h (okS c 22 h) (e22 c d l n)
  | 23, h => end_ok h (okS c 23 h) (e23 c d l n)
  | 24, h => end_ok h (okS c 24 h) (e24 c d l n)
  | 25, h => end_ok h (okS c 25 h) (e25 c d l n)
  | 26, h => end_ok h (okS c 26 h) (e26 c d l n)
  | 27, h => end_ok h (okS c 27 h) (e27 c d l n)
  | 28, h => end_ok h (okS c 28 h) (e28 c d l n)
  | 29, h => end_ok h (okS c 29 h) (e29 c d l n)
  | 30, h => end_ok h (okS c 30 h) (e30 c d l n)
  | i + 31, h => by omega
end Go.Proofs.GD
