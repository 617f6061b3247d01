/- Proved: what OnesCount64 and TrailingZeros64 answer. -/
import Derived.Test.YtoipjmhfeggdeaaDoorBitmap
namespace Go.Proofs.YtoipjmhfeggdeaaDoor.Bitmap
open Go.RowKit Go.Proofs.YtoipjmhfeggdeaaDoor.H Go.Proofs.YtoipjmhfeggdeaaDoor.Nums Go.Proofs.YtoipjmhfeggdeaaDoor.BitPure
set_option linter.unusedVariables false

theorem wrap_nat (x : Nat) (h : x < 18446744073709551616) : IntKind.u64.wrap (x : Int) = (x : Int) := by rw [IntKind.wrap_u64]; omega

theorem and_127 (x : Nat) (h : x < 9223372036854775808) : bits .and .i64 (x : Int) 127 = ((x % 128 : Nat) : Int) := by
  have := i64_and127 x
  rw [this]
  omega

set_option maxHeartbeats 3200000 in
theorem ones_any (x : Nat) (hx : x < 18446744073709551616) (w : World) : Calls Tryd.prog 49 #[.int .u64 x] w (Quiet w (.int .i64 (pcnt x : Nat))) := by
  obtain ⟨x1, e1⟩ : ∃ x1, x1 = ((x / 2) &&& 6148914691236517205) + (x &&& 6148914691236517205) := ⟨_, rfl⟩
  obtain ⟨x2, e2⟩ : ∃ x2, x2 = ((x1 / 4) &&& 3689348814741910323) + (x1 &&& 3689348814741910323) := ⟨_, rfl⟩
  obtain ⟨x3, e3⟩ : ∃ x3, x3 = (x2 / 16 + x2) &&& 1085102592571150095 := ⟨_, rfl⟩
  obtain ⟨x4, e4⟩ : ∃ x4, x4 = x3 + x3 / 256 := ⟨_, rfl⟩
  obtain ⟨x5, e5⟩ : ∃ x5, x5 = x4 + x4 / 65536 := ⟨_, rfl⟩
  obtain ⟨x6, e6⟩ : ∃ x6, x6 = x5 + x5 / 4294967296 := ⟨_, rfl⟩
  obtain ⟨l1, l2, l3, l4, l5, l6, hp⟩ := ones x x1 x2 x3 x4 x5 x6 e1 e2 e3 e4 e5 e6
  have k1 : IntKind.u64.wrap (bits .and .u64 ((x : Int) / 2) 6148914691236517205 + bits .and .u64 (x : Int) 6148914691236517205) = (x1 : Int) := by
    have a := u64_and_nat (x / 2) 6148914691236517205 (Nat.lt_of_le_of_lt (Nat.div_le_self _ _) hx) (by decide)
    have b := u64_and_nat x 6148914691236517205 hx (by decide)
    rw [show (x : Int) / 2 = ((x / 2 : Nat) : Int) by omega, show (6148914691236517205 : Int) = ((6148914691236517205 : Nat) : Int) from rfl, a, b, ← Int.natCast_add, ← e1]
    exact wrap_nat _ l1
  have k2 : IntKind.u64.wrap (bits .and .u64 ((x1 : Int) / 4) 3689348814741910323 + bits .and .u64 (x1 : Int) 3689348814741910323) = (x2 : Int) := by
    have a := u64_and_nat (x1 / 4) 3689348814741910323 (Nat.lt_of_le_of_lt (Nat.div_le_self _ _) l1) (by decide)
    have b := u64_and_nat x1 3689348814741910323 l1 (by decide)
    rw [show (x1 : Int) / 4 = ((x1 / 4 : Nat) : Int) by omega, show (3689348814741910323 : Int) = ((3689348814741910323 : Nat) : Int) from rfl, a, b, ← Int.natCast_add, ← e2]
    exact wrap_nat _ (Nat.lt_of_le_of_lt l2 (by decide))
  have k3 : bits .and .u64 (IntKind.u64.wrap ((x2 : Int) / 16 + (x2 : Int))) 1085102592571150095 = (x3 : Int) := by
    have l : x2 / 16 + x2 < 18446744073709551616 := by clear e1 e2 e3 e4 e5 e6 k1 k2 hp; omega
    have a := u64_and_nat (x2 / 16 + x2) 1085102592571150095 l (by decide)
    rw [show (x2 : Int) / 16 + (x2 : Int) = ((x2 / 16 + x2 : Nat) : Int) by omega, wrap_nat _ l, show (1085102592571150095 : Int) = ((1085102592571150095 : Nat) : Int) from rfl, a, ← e3]
  have k4 : IntKind.u64.wrap ((x3 : Int) + (x3 : Int) / 256) = (x4 : Int) := by
    rw [show (x3 : Int) + (x3 : Int) / 256 = (x4 : Int) by rw [e4]; omega]
    exact wrap_nat _ l4
  have k5 : IntKind.u64.wrap ((x4 : Int) + (x4 : Int) / 65536) = (x5 : Int) := by
    rw [show (x4 : Int) + (x4 : Int) / 65536 = (x5 : Int) by rw [e5]; omega]
    exact wrap_nat _ l5
  have k4' : IntKind.u64.wrap ((x3 : Int) / 256 + (x3 : Int)) = (x4 : Int) := by rw [Int.add_comm]; exact k4
  have k5' : IntKind.u64.wrap ((x4 : Int) / 65536 + (x4 : Int)) = (x5 : Int) := by rw [Int.add_comm]; exact k5
  have k6 : IntKind.u64.wrap ((x5 : Int) + (x5 : Int) / 4294967296) = (x6 : Int) := by
    rw [show (x5 : Int) + (x5 : Int) / 4294967296 = (x6 : Int) by rw [e6]; omega]
    exact wrap_nat _ (Nat.lt_trans l6 (by decide))
  have k6' : IntKind.u64.wrap ((x5 : Int) / 4294967296 + (x5 : Int)) = (x6 : Int) := by rw [Int.add_comm]; exact k6
  have k7 : IntKind.i64.wrap (x6 : Int) = (x6 : Int) := by rw [IntKind.wrap_i64]; clear e1 e2 e3 e4 e5 e6 k1 k2 k3 k4 k5 k6 k4' k5' k6'; omega
  have K := And.intro k1 (And.intro k2 (And.intro k3 (And.intro k4 (And.intro k5 (And.intro k6 k7)))))
  have K' := And.intro k4' (And.intro k5' k6')
  have HK := Lib.hid K
  have HK' := Lib.hid K'
  clear K K' k1 k2 k3 k4 k5 k6 k7 k4' k5' k6' e1 e2 e3 e4 e5 e6 l1 l2 l3 l4 l5
  go_enter Tryd.func49, Tryd.ntmps49
  go_wp2
  obtain ⟨k1, k2, k3, k4, k5, k6, k7⟩ := HK.out
  obtain ⟨k4', k5', k6'⟩ := HK'.out
  simp only [k1, k2, k3, k4, k5, k6]
  go_ret
  exact ⟨by show Ending.returned (.int .i64 _) = _; rw [show wrap64 (x6 : Int) = (x6 : Int) from (by first | (rw [wrap64_of] <;> omega) | (unfold wrap64; omega)), and_127 x6 l6, hp], 0, rfl⟩

theorem tz_key (x a : Nat) (hx : x < 18446744073709551616) (hx0 : x ≠ 0) (hlow : x &&& (18446744073709551616 - x) = a) :
    IntKind.u64.wrap (bits BinOp.and IntKind.u64 (x : Int) (IntKind.u64.wrap (-(x : Int))) * 285870213051353865) / 288230376151711744 = ((a * 285870213051353865 % 18446744073709551616 / 288230376151711744 : Nat) : Int) := by
  have e1 : IntKind.u64.wrap (-(x : Int)) = ((18446744073709551616 - x : Nat) : Int) := by rw [IntKind.wrap_u64]; omega
  rw [e1, u64_and_nat x _ hx (by omega), hlow, IntKind.wrap_u64]
  omega

/-- the library's table lies in its variable -/
def Tab (w : World) : Prop := ∀ j, j < 64 → w.cell? ⟨0, j, none⟩ = some (.int .u8 (Lib.deBruijn64tab.getD j 0))

theorem Tab.drewN {w : World} (h : Tab w) (n : Nat) : Tab (w.drewN n) := fun j hj => h j hj

set_option maxHeartbeats 3200000 in
theorem tz_core (x k idx : Nat) (hx0 : ((x : Int) == 0) = false)
    (key : IntKind.u64.wrap (bits BinOp.and IntKind.u64 (x : Int) (IntKind.u64.wrap (-(x : Int))) * 285870213051353865) / 288230376151711744 = (idx : Int))
    (hi : idx < 64) (hk : k < 64) (w : World) (hcell : w.cell? ⟨0, idx, none⟩ = some (.int .u8 k)) : Calls Tryd.prog 58 #[.int .u64 x] w (Quiet w (.int .i64 k)) := by
  go_enter Tryd.func58, Tryd.ntmps58
  go_wp2_with (simp only [key])
  go_ret
  exact ⟨rfl, 0, rfl⟩

theorem tz_any (x : Nat) (hx : x < 18446744073709551616) (h0 : x ≠ 0) (w : World) (ht : Tab w) : Calls Tryd.prog 58 #[.int .u64 x] w (Quiet w (.int .i64 (low x : Nat))) := by
  obtain ⟨hlow, hk⟩ := Lib.lowest_bit 64 x h0 hx
  obtain ⟨hi, htab⟩ := Lib.deBruijn64_at _ hk
  have hcell := ht _ hi
  rw [htab] at hcell
  exact tz_core x _ _ (by simp; omega) (tz_key x _ hx h0 hlow) hi hk w hcell

end Go.Proofs.YtoipjmhfeggdeaaDoor.Bitmap
