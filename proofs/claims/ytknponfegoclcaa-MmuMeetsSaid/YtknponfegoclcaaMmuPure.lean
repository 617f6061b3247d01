/- Proved: plain laws of the fewest own letters in a window (no program in sight). -/
import Derived.Test.YtknponfegoclcaaMmu
namespace Go.Proofs.Ytknponfegoclcaa.Mmu
open Go.RowKit Go.Proofs.YtknponfegoclcaaW.PrintWords Go.Proofs.YtknponfegoclcaaW.PrintLast Go.Proofs.YtknponfegoclcaaW.PrintMore

theorem mn_eq (a b : Int) : mn a b = min a b := by unfold mn; split <;> omega
/-- its own letters in the n letters from j on -/
def own (l : List Bool) (n j : Nat) : Int := (n : Int) - (cnt l (n + j) - cnt l j)
theorem cnt_step (l : List Bool) (i : Nat) : cnt l i ≤ cnt l (i + 1) ∧ cnt l (i + 1) ≤ cnt l i + 1 := by
  by_cases h : i < l.length
  · rw [cnt_succ l i h]; split <;> omega
  · unfold cnt
    rw [List.take_of_length_le (by omega), List.take_of_length_le (by omega)]
    omega
theorem cnt_gap (l : List Bool) (j n : Nat) : cnt l j ≤ cnt l (n + j) ∧ cnt l (n + j) ≤ cnt l j + n := by
  induction n with
  | zero => rw [Nat.zero_add]; omega
  | succ n ih => have := cnt_step l (n + j); rw [show n + 1 + j = n + j + 1 by omega]; omega
theorem own_range (l : List Bool) (n j : Nat) : 0 ≤ own l n j ∧ own l n j ≤ n := by have := cnt_gap l j n; unfold own; omega
theorem winF_eq (l : List Bool) (hl : l.length ≤ 1000) (n j : Nat) (h : n + j ≤ l.length) : winF l n j = cnt l (n + j) - cnt l j ∧ wrap64 ((n : Int) - winF l n j) = own l n j := by
  have h1 := cnt_gap l j n
  have h2 := cnt_le l j
  have e : winF l n j = cnt l (n + j) - cnt l j := by unfold winF wrap64; omega
  refine ⟨e, ?_⟩
  rw [e]
  unfold own wrap64
  omega
/-- the fewest in the first k windows -/
def lev (l : List Bool) (n k : Nat) : Int := leastV n (upto (winF l n) k)
def LV (l : List Bool) (n : Nat) : Int := lev l n (l.length + 1 - n)
theorem lev_zero (l : List Bool) (n : Nat) : lev l n 0 = n := rfl
theorem lev_succ (l : List Bool) (hl : l.length ≤ 1000) (n k : Nat) (h : n + k ≤ l.length) : lev l n (k + 1) = min (lev l n k) (own l n k) := by
  unfold lev
  rw [upto_succ, leastV_snoc, (winF_eq l hl n k h).2]
theorem lev_spec (l : List Bool) (hl : l.length ≤ 1000) (n : Nat) : ∀ k, n + k ≤ l.length + 1 → (lev l n k ≤ n ∧ 0 ≤ lev l n k ∧ (∀ j, j < k → lev l n k ≤ own l n j) ∧ (k = 0 ∨ ∃ j, j < k ∧ lev l n k = own l n j)) := by
  intro k
  induction k with
  | zero => intro _; rw [lev_zero]; exact ⟨Int.le_refl _, by omega, fun j h => by omega, .inl rfl⟩
  | succ k ih =>
    intro h
    obtain ⟨h1, h2, h3, h4⟩ := ih (by omega)
    have hr := own_range l n k
    rw [lev_succ l hl n k (by omega)]
    refine ⟨by omega, by omega, fun j hj => ?_, .inr ?_⟩
    · by_cases e : j = k
      · subst e; omega
      · have := h3 j (by omega); omega
    · rcases h4 with rfl | ⟨j, hj, he⟩
      · exact ⟨0, by omega, by rw [lev_zero] at *; omega⟩
      · by_cases hc : own l n k < lev l n k
        · exact ⟨k, by omega, by omega⟩
        · exact ⟨j, by omega, by omega⟩
theorem LV_le (l : List Bool) (hl : l.length ≤ 1000) (n j : Nat) (h : n + j ≤ l.length) : LV l n ≤ own l n j := (lev_spec l hl n _ (by omega)).2.2.1 j (by omega)
theorem LV_at (l : List Bool) (hl : l.length ≤ 1000) (n : Nat) (h : n ≤ l.length) : ∃ j, n + j ≤ l.length ∧ LV l n = own l n j := by
  rcases (lev_spec l hl n (l.length + 1 - n) (by omega)).2.2.2 with h0 | ⟨j, hj, he⟩
  · omega
  · exact ⟨j, by omega, he⟩
theorem LV_range (l : List Bool) (hl : l.length ≤ 1000) (n : Nat) (h : n ≤ l.length) : 0 ≤ LV l n ∧ LV l n ≤ n := by
  have := lev_spec l hl n (l.length + 1 - n) (by omega)
  exact ⟨this.2.1, this.1⟩
theorem LV_up (l : List Bool) (hl : l.length ≤ 1000) (n : Nat) (h : n + 1 ≤ l.length) : LV l n ≤ LV l (n + 1) ∧ LV l (n + 1) ≤ LV l n + 1 := by
  constructor
  · obtain ⟨j, hj, he⟩ := LV_at l hl (n + 1) h
    have h1 := LV_le l hl n j (by omega)
    have h2 := cnt_step l (n + j)
    rw [he]
    unfold own at h1 ⊢
    rw [show n + 1 + j = n + j + 1 by omega]
    omega
  · obtain ⟨j, hj, he⟩ := LV_at l hl n (by omega)
    by_cases hc : n + 1 + j ≤ l.length
    · have h1 := LV_le l hl (n + 1) j hc
      have h2 := cnt_step l (n + j)
      rw [he]
      unfold own at h1 ⊢
      rw [show n + 1 + j = n + j + 1 by omega] at h1
      omega
    · obtain ⟨i, rfl⟩ : ∃ i, j = i + 1 := ⟨j - 1, by omega⟩
      have h1 := LV_le l hl (n + 1) i (by omega)
      have h2 := cnt_step l i
      rw [he]
      unfold own at h1 ⊢
      rw [show n + (i + 1) = n + 1 + i by omega]
      omega
theorem Least_eq (l : List Bool) (hl : l.length ≤ 1000) (n : Nat) (h1 : 1 ≤ n) (h2 : n ≤ l.length) : Least l (n : Int) = some (LV l n, true) := by
  unfold Least LV lev
  rw [if_pos (by omega), if_neg (by omega), if_neg (by omega), Int.toNat_natCast]
theorem Least_off (l : List Bool) (hl : l.length ≤ 1000) (n : Int) (h : n < 1 ∨ (l.length : Int) < n) : Least l n = some (0, false) := by
  unfold Least
  rw [if_pos (by omega)]
  by_cases h1 : n < 1
  · rw [if_pos h1]
  · rw [if_neg h1, if_pos (by omega)]
/-- a window's size, as it counts -/
def near (n : Int) : Nat := (if n < 1 then 1 else if n > 64 then 64 else n).toNat
theorem near_range (n : Int) : 1 ≤ near n ∧ near n ≤ 64 := by unfold near; (repeat' split) <;> omega
theorem near_int (n : Int) : (if n < 1 then (1 : Int) else if n > 64 then 64 else n) = (near n : Int) := by unfold near; (repeat' split) <;> omega
theorem near_near (n : Int) : near ((near n : Nat) : Int) = near n := by
  have := near_range n
  unfold near at this ⊢
  rw [if_neg (by omega), if_neg (by omega), Int.toNat_natCast]
theorem winOf_eq (l : List Bool) (n : Int) : winOf l n = min (near n) l.length := by
  unfold winOf
  rw [near_int]
  omega
/-- has no window too many? -/
def MB (l : List Bool) (n most : Int) : Bool := decide (((winOf l n : Nat) : Int) - LV l (winOf l n) ≤ most)
theorem Meets_eq (l : List Bool) (hl : l.length ≤ 1000) (n most : Int) : Meets l n most = some (MB l n most) := by
  unfold Meets MB
  rw [if_pos (by omega)]
  have hm : winOf l n ≤ l.length := by rw [winOf_eq]; omega
  obtain ⟨m, hmm⟩ : ∃ m, m = winOf l n := ⟨_, rfl⟩
  rw [← hmm] at hm ⊢
  congr 1
  rw [Bool.eq_iff_iff, List.all_eq_true, decide_eq_true_iff]
  constructor
  · intro h
    obtain ⟨j, hj, he⟩ := LV_at l hl m hm
    have := h (winF l m j) (List.mem_map.2 ⟨j, List.mem_range.2 (by omega), rfl⟩)
    rw [(winF_eq l hl m j hj).1, decide_eq_true_iff] at this
    rw [he]
    unfold own
    omega
  · intro h y hy
    obtain ⟨j, hj, rfl⟩ := List.mem_map.1 hy
    have hj := List.mem_range.1 hj
    have h1 := LV_le l hl m j (by omega)
    rw [(winF_eq l hl m j (by omega)).1, decide_eq_true_iff]
    unfold own at h1
    omega
theorem MB_most (l : List Bool) (n most : Int) (h : MB l n most = true) : MB l n (most + 1) = true := by
  unfold MB at *
  rw [decide_eq_true_iff] at *
  omega
theorem cnt_app (l : List Bool) (b : Bool) (i : Nat) (h : i ≤ l.length) : cnt (l ++ [b]) i = cnt l i := by
  unfold cnt
  rw [List.take_append_of_le_length h]
theorem cnt_app1 (l : List Bool) : cnt (l ++ [false]) (l.length + 1) = cnt l l.length := by
  rw [cnt_succ _ _ (by simp), cnt_app _ _ _ (Nat.le_refl _)]
  simp
theorem MB_own (l : List Bool) (hl : l.length ≤ 900) (n most : Int) (h : MB l n most = true) : MB (l ++ [false]) n most = true := by
  have hn := near_range n
  unfold MB at *
  rw [decide_eq_true_iff] at *
  have hL : (l ++ [false]).length = l.length + 1 := by simp
  have w1 := winOf_eq l n
  have w2 := winOf_eq (l ++ [false]) n
  rw [hL] at w2
  obtain ⟨m, hm⟩ : ∃ m, m = winOf l n := ⟨_, rfl⟩
  obtain ⟨m2, hm2⟩ : ∃ m2, m2 = winOf (l ++ [false]) n := ⟨_, rfl⟩
  rw [← hm] at h w1
  rw [← hm2] at w2 ⊢
  obtain ⟨j, hj, he⟩ := LV_at (l ++ [false]) (by omega) m2 (by omega)
  rw [hL] at hj
  rw [he]
  by_cases hc : m2 + j ≤ l.length
  · have hmm : m2 = m := by omega
    subst hmm
    have h1 := LV_le l (by omega) m2 j hc
    unfold own at h1 ⊢
    rw [cnt_app l false _ hc, cnt_app l false j (by omega)]
    omega
  · have e : m2 + j = l.length + 1 := by omega
    unfold own
    rw [e, cnt_app1, cnt_app l false j (by omega)]
    have h1 := LV_le l (by omega) m (l.length - m) (by omega)
    unfold own at h1
    rw [show m + (l.length - m) = l.length by omega] at h1
    have g := cnt_gap l (l.length - m) (j - (l.length - m))
    rw [show j - (l.length - m) + (l.length - m) = j by omega] at g
    omega
end Go.Proofs.Ytknponfegoclcaa.Mmu
