/- Proved: what Next, Count, All of package bitmap do and answer. -/
import Derived.Test.YtoipjmhfeggdeaaBitmap2
namespace Go.Proofs.Ytoipjmhfeggdeaa.Bitmap
open Go.RowKit Go.Proofs.Ytoipjmhfeggdeaa.H Go.Proofs.Ytoipjmhfeggdeaa.Nums Go.Proofs.Ytoipjmhfeggdeaa.BitPure
set_option linter.unusedVariables false

/-- what is left to look at from i on: word j's bits are x's -/
structure Rest (ws : List Nat) (i j x : Nat) : Prop where
  lt : x < 18446744073709551616
  bit : ∀ b, b < 64 → x.testBit b = (decide (i ≤ 64 * j + b) && has ws (64 * j + b))
  none : ∀ m, i ≤ m → m < 64 * j → has ws m = false

theorem has_at (ws : List Nat) (j b : Nat) (hb : b < 64) : has ws (64 * j + b) = (wd ws j).testBit b := by
  unfold has
  rw [show (64 * j + b) / 64 = j by omega, show (64 * j + b) % 64 = b by omega]

theorem rest_start (ws : List Nat) (i : Nat) (h : wd ws (i / 64) < 18446744073709551616) : Rest ws i (i / 64) (cutLow (wd ws (i / 64)) (i % 64)) := by
  refine ⟨Nat.lt_of_le_of_lt (cut_le _ _) h, fun b hb => ?_, fun m h1 h2 => by omega⟩
  rw [cut_bit, has_at _ _ _ hb]
  congr 1
  by_cases h : i % 64 ≤ b
  · rw [decide_eq_true h, decide_eq_true (by omega)]
  · rw [decide_eq_false h, decide_eq_false (by omega)]

theorem rest_zero {ws : List Nat} {i j : Nat} (h : Rest ws i j 0) : ∀ m, i ≤ m → m < 64 * (j + 1) → has ws m = false := fun m h1 h2 => by
  by_cases hm : m < 64 * j
  · exact h.none m h1 hm
  · have hb := h.bit (m - 64 * j) (by omega)
    rw [show 64 * j + (m - 64 * j) = m by omega, decide_eq_true h1] at hb
    simpa using hb.symm

theorem rest_next {ws : List Nat} {i j : Nat} (h : Rest ws i j 0) (hij : i < 64 * (j + 1)) (hl : wd ws (j + 1) < 18446744073709551616) : Rest ws i (j + 1) (wd ws (j + 1)) :=
  ⟨hl, fun b hb => by rw [has_at _ _ _ hb, decide_eq_true (by omega)]; rfl, rest_zero h⟩

theorem rest_none {ws : List Nat} {i : Nat} (h : Rest ws i 31 0) : nxt ws i = -1 := nxt_none ws i (fun k h1 h2 => rest_zero h k h1 (by omega))

theorem rest_found {ws : List Nat} {i j x : Nat} (h : Rest ws i j x) (hx : x ≠ 0) (hj : j < 32) : nxt ws i = ((64 * j + low x : Nat) : Int) ∧ low x < 64 := by
  obtain ⟨h1, h2, h3⟩ := low_bit x hx h.lt
  have hb := h.bit (low x) h1
  rw [h2] at hb
  have hb' : decide (i ≤ 64 * j + low x) = true ∧ has ws (64 * j + low x) = true := by simpa using hb.symm
  have hi : i ≤ 64 * j + low x := by simpa using hb'.1
  refine ⟨nxt_some ws i _ hi (by omega) hb'.2 (fun k h4 h5 => ?_), h1⟩
  by_cases hk : k < 64 * j
  · exact h.none k h4 hk
  · have hb2 := h.bit (k - 64 * j) (by omega)
    rw [h3 _ (by omega), show 64 * j + (k - 64 * j) = k by omega, decide_eq_true h4] at hb2
    simpa using hb2.symm

def nextI (n : Nat) (ws : List Nat) (k : Int) : Int := if (n : Int) ≤ k then -1 else nxt ws k.toNat

theorem cut_val (x s : Nat) (hx : x < 18446744073709551616) : IntKind.u64.wrap ((x : Int) / 2 ^ s * 2 ^ s) = (cutLow x s : Int) := by
  have h := cut_le x s
  unfold cutLow at h ⊢
  rw [show (x : Int) / 2 ^ s * 2 ^ s = ((x / 2 ^ s * 2 ^ s : Nat) : Int) by simp, IntKind.wrap_u64]
  generalize x / 2 ^ s * 2 ^ s = y at h ⊢
  omega

end Go.Proofs.Ytoipjmhfeggdeaa.Bitmap
