/- Proved: what the calls of packages class, geo and of the reference scutageref06 answer that package chain uses; what open, link, next of package chain do. -/
import Derived.Test.YtbndmcblkfaheaaMem2
import Derived.Test.YtbndmcblkfaheaaInts
namespace Go.Proofs.Ytbndmcblkfaheaa.Chain
open Go.RowKit Go.Proofs.Ytbndmcblkfaheaa.H Go.Proofs.Ytbndmcblkfaheaa.Words Go.Proofs.Ytbndmcblkfaheaa.Mem
set_option linter.unusedVariables false
set_option linter.unusedSimpArgs false

/-- words of a cell of a class; cells of a page -/
def sz (k : Int) : Nat := if k = 1 then 2 else if k = 2 then 4 else if k = 3 then 8 else if k = 4 then 16 else 0
def nc (k : Int) : Nat := 32 / sz k

theorem kinds (k : Int) : k = 1 ∨ k = 2 ∨ k = 3 ∨ k = 4 ∨ (k < 1 ∨ 4 < k) := by omega

theorem sz_none {k : Int} (h : k < 1 ∨ 4 < k) : sz k = 0 := by
  unfold sz
  rw [if_neg (by omega), if_neg (by omega), if_neg (by omega), if_neg (by omega)]

theorem nc_none {k : Int} (h : k < 1 ∨ 4 < k) : nc k = 0 := by unfold nc; rw [sz_none h]

theorem kind_of {k : Int} (h : 0 < nc k) : k = 1 ∨ k = 2 ∨ k = 3 ∨ k = 4 := by
  rcases kinds k with h1 | h1 | h1 | h1 | h1
  · exact .inl h1
  · exact .inr (.inl h1)
  · exact .inr (.inr (.inl h1))
  · exact .inr (.inr (.inr h1))
  · rw [nc_none h1] at h; omega

theorem nc_le (k : Int) : nc k ≤ 16 := by
  rcases kinds k with rfl | rfl | rfl | rfl | h
  · decide
  · decide
  · decide
  · decide
  · rw [nc_none h]; omega

/-- a cell lies in its page -/
theorem cell_in {k : Int} {i : Nat} (h : i < nc k) : 2 ≤ sz k ∧ i * sz k + sz k ≤ 32 := by
  rcases kind_of (show 0 < nc k by omega) with rfl | rfl | rfl | rfl
  · have : i < 16 := h; show 2 ≤ 2 ∧ i * 2 + 2 ≤ 32; omega
  · have : i < 8 := h; show 2 ≤ 4 ∧ i * 4 + 4 ≤ 32; omega
  · have : i < 4 := h; show 2 ≤ 8 ∧ i * 8 + 8 ≤ 32; omega
  · have : i < 2 := h; show 2 ≤ 16 ∧ i * 16 + 16 ≤ 32; omega

set_option maxHeartbeats 1600000 in
theorem size_any (k : Int) (w : World) : Calls Try.prog 33 #[.int .i64 k] w (Quiet w (.int .i64 (sz k))) := by
  rcases kinds k with rfl | rfl | rfl | rfl | h
  · go_enter Try.func33, Try.ntmps33
    go_wp2
    go_ret
    exact ⟨rfl, 0, rfl⟩
  · go_enter Try.func33, Try.ntmps33
    go_wp2
    go_ret
    exact ⟨rfl, 0, rfl⟩
  · go_enter Try.func33, Try.ntmps33
    go_wp2
    go_ret
    exact ⟨rfl, 0, rfl⟩
  · go_enter Try.func33, Try.ntmps33
    go_wp2
    go_ret
    exact ⟨rfl, 0, rfl⟩
  · rw [sz_none h]
    by_cases h1 : k < 1
    · clear h
      go_enter Try.func33, Try.ntmps33
      go_wp2
      go_ret
      exact ⟨rfl, 0, rfl⟩
    · have h2 : 5 ≤ k := by omega
      have g1 : decide (k < 1) = false := by simp; omega
      have g2 : decide (5 ≤ k) = true := by simp; omega
      clear h h1
      go_enter Try.func33, Try.ntmps33
      go_wp2
      go_ret
      exact ⟨rfl, 0, rfl⟩

set_option maxHeartbeats 1600000 in
theorem cells_any (k : Int) (w : World) : Calls Try.prog 32 #[.int .i64 k] w (Quiet w (.int .i64 (nc k))) := by
  rcases kinds k with rfl | rfl | rfl | rfl | h
  · have HZ : Hid (∀ W, Calls Try.prog 33 #[.int .i64 1] W (Quiet W (.int .i64 2))) := Lib.hid (fun W => size_any 1 W)
    go_enter Try.func32, Try.ntmps32
    go_wp2_with (go_at_call 33; refine (HZ.out _).mono ?_; rintro e w1 ⟨rfl, q, rfl⟩)
    go_ret
    exact ⟨rfl, _, rfl⟩
  · have HZ : Hid (∀ W, Calls Try.prog 33 #[.int .i64 2] W (Quiet W (.int .i64 4))) := Lib.hid (fun W => size_any 2 W)
    go_enter Try.func32, Try.ntmps32
    go_wp2_with (go_at_call 33; refine (HZ.out _).mono ?_; rintro e w1 ⟨rfl, q, rfl⟩)
    go_ret
    exact ⟨rfl, _, rfl⟩
  · have HZ : Hid (∀ W, Calls Try.prog 33 #[.int .i64 3] W (Quiet W (.int .i64 8))) := Lib.hid (fun W => size_any 3 W)
    go_enter Try.func32, Try.ntmps32
    go_wp2_with (go_at_call 33; refine (HZ.out _).mono ?_; rintro e w1 ⟨rfl, q, rfl⟩)
    go_ret
    exact ⟨rfl, _, rfl⟩
  · have HZ : Hid (∀ W, Calls Try.prog 33 #[.int .i64 4] W (Quiet W (.int .i64 16))) := Lib.hid (fun W => size_any 4 W)
    go_enter Try.func32, Try.ntmps32
    go_wp2_with (go_at_call 33; refine (HZ.out _).mono ?_; rintro e w1 ⟨rfl, q, rfl⟩)
    go_ret
    exact ⟨rfl, _, rfl⟩
  · rw [nc_none h]
    have HZ : Hid (∀ W, Calls Try.prog 33 #[.int .i64 k] W (Quiet W (.int .i64 0))) := Lib.hid (fun W => by have h2 := size_any k W; rw [sz_none h] at h2; exact h2)
    clear h
    go_enter Try.func32, Try.ntmps32
    go_wp2_with (go_at_call 33; refine (HZ.out _).mono ?_; rintro e w1 ⟨rfl, q, rfl⟩)
    go_ret
    exact ⟨rfl, _, rfl⟩

set_option maxHeartbeats 3200000 in
theorem at_yes (k : Int) (p i : Nat) (hp : p < 64) (hi : i < nc k) (w : World) :
    Calls Try.prog 13 #[.int .i64 p, .int .i64 k, .int .i64 i] w (Quiet w (.tuple #[.int .i64 ((32 * p + i * sz k : Nat)), .bool true])) := by
  have i1 : (0 : Int) ≤ (p : Int) := Int.natCast_nonneg _
  have i2 : (p : Int) < 64 := by omega
  have i3 : (0 : Int) ≤ (i : Int) := Int.natCast_nonneg _
  have hn := nc_le k
  have HC := Lib.hid (cells_any k)
  have HS := Lib.hid (size_any k)
  obtain ⟨n, hnn⟩ : ∃ n, n = nc k := ⟨_, rfl⟩
  obtain ⟨s, hs⟩ : ∃ s, s = sz k := ⟨_, rfl⟩
  have hin := cell_in hi
  rw [← hnn] at HC hi hn
  rw [← hs] at HS hin ⊢
  have i4 : (i : Int) < (n : Int) := by omega
  have hsz : s ≤ 32 := by omega
  obtain ⟨t, ht⟩ : ∃ t, t = i * s := ⟨_, rfl⟩
  rw [← ht] at hin ⊢
  have e1 : (i : Int) * (s : Int) = (t : Int) := by rw [ht]; simp
  have e2 : (p : Int) * 32 + (t : Int) = ((32 * p + t : Nat) : Int) := by simp; omega
  have i5 : (t : Int) ≤ 32 := by omega
  have i6 : (0 : Int) ≤ (t : Int) := Int.natCast_nonneg _
  have HR := Lib.hid e2
  clear hnn hs ht hin hp hi e2
  go_enter Try.func13, Try.ntmps13
  go_wp2_with (first
    | (go_at_call 32; refine (HC.out _).mono ?_; rintro e w1 ⟨rfl, q, rfl⟩)
    | (go_at_call 33; refine (HS.out _).mono ?_; rintro e w1 ⟨rfl, q2, rfl⟩))
  go_ret2
  exact ⟨by rw [HR.out]; rfl, _, rfl⟩

set_option maxHeartbeats 3200000 in
theorem ends_yes (p : Nat) (hp : p < 64) (w : World) :
    Calls Try.prog 28 #[.int .i64 p, .int .i64 1] w (Quiet w (.tuple #[.int .i64 ((32 * p : Nat)), .int .i64 ((32 * p + 31 : Nat)), .bool true])) := by
  have i1 : (0 : Int) ≤ (p : Int) := Int.natCast_nonneg _
  have i2 : (p : Int) < 64 := by omega
  have HR := Lib.hid (show (p : Int) * 32 = ((32 * p : Nat) : Int) by simp; omega)
  have HQ := Lib.hid (show ((p : Int) + 1) * 32 - 1 = ((32 * p + 31 : Nat) : Int) by simp; omega)
  clear hp
  go_enter Try.func28, Try.ntmps28
  go_wp2
  go_ret3
  exact ⟨by rw [HR.out, HQ.out]; rfl, 0, rfl⟩

set_option maxHeartbeats 3200000 in
theorem ends_no (p : Int) (hp : p < 0 ∨ 64 ≤ p) (w : World) :
    Calls Try.prog 28 #[.int .i64 p, .int .i64 1] w (Quiet w (.tuple #[.int .i64 0, .int .i64 0, .bool false])) := by
  by_cases h1 : p < 0
  · clear hp
    go_enter Try.func28, Try.ntmps28
    go_wp2
    go_ret3
    exact ⟨rfl, 0, rfl⟩
  · have h2 : 64 ≤ p := by omega
    have g1 : decide (p < 0) = false := by simp; omega
    have g2 : decide (64 ≤ p) = true := by simp; omega
    clear hp h1
    go_enter Try.func28, Try.ntmps28
    go_wp2
    go_ret3
    exact ⟨rfl, 0, rfl⟩

end Go.Proofs.Ytbndmcblkfaheaa.Chain
