/- Proved: of any letters the Go law MmuTells answers true (its plain form). -/
import Derived.Test.YtknponfegoclcaaPMmuTellsx2
import Derived.Test.YtknponfegoclcaaMmuPure
namespace Go.Proofs.Ytknponfegoclcaa.PureMmuTells
open Go.RowKit Go.Proofs.Ytknponfegoclcaa.PMmuTells Go.Proofs.YtknponfegoclcaaW.PrintWords Go.Proofs.YtknponfegoclcaaW.PrintLast Go.Proofs.YtknponfegoclcaaW.PrintMore
open Go.Proofs.Ytknponfegoclcaa.Mmu (cnt cnt_succ cnt_le cnt_gap own own_range LV lev lev_zero lev_succ LV_le LV_at LV_range LV_up Least Least_eq Least_off near near_range near_int near_near winOf winOf_eq MB Meets Meets_eq MB_most MB_own mn_eq upto upto_succ upto_length)
set_option linter.unusedVariables false

theorem alive_true : scutagelaw31_alive.f 60 = some true := by decide +kernel
theorem alive (K : Nat) : scutagelaw31_alive.f (K + 60) = some true := at_rounds (g := fun m => scutagelaw31_alive.f m) (fun m => scutagelaw31_alive.mono m) (Nat.le_add_left 60 K) alive_true
theorem few_f (l : List Bool) : scutagelaw31_few.f l = some (l.take 90) := by
  unfold scutagelaw31_few.f
  by_cases h : (l.length : Int) > 90
  · rw [if_pos h, if_pos (by omega)]
  · rw [if_neg h, List.take_of_length_le (by omega)]
theorem few_len (l : List Bool) : (l.take 90).length ≤ 90 := by rw [List.length_take]; omega
theorem wsucc (i : Nat) (h : i < 100000) : wrap64 ((i : Int) + 1) = ((i + 1 : Nat) : Int) := by unfold wrap64; omega

theorem own_go (l : List Bool) (hl : l.length ≤ 1000) (n i : Nat) (h : n + i ≤ l.length) : ∀ d j k : Nat, j + d = n → scutagelaw31_own.l0 (k + d + 1) l (i : Int) (n : Int) (own l j i) ((i + j : Nat) : Int) = some (own l n i) := by
  have hw : wrap64 ((i : Int) + (n : Int)) = ((i + n : Nat) : Int) := by unfold wrap64; omega
  intro d
  induction d with
  | zero =>
    intro j k hj
    simp only [scutagelaw31_own.l0]
    rw [hw, if_neg (by omega)]
    obtain rfl : j = n := by omega
    rfl
  | succ d ih =>
    intro j k hj
    have h1 := ih (j + 1) k (by omega)
    have hlt : i + j < l.length := by omega
    have hr : rdOf false l ((i + j : Nat) : Int) = l[i + j] := by rw [rdOf, Int.toNat_natCast, List.getD_eq_getElem?_getD, List.getElem?_eq_getElem hlt]; rfl
    have hc := cnt_succ l (i + j) hlt
    have ho := own_range l j i
    obtain ⟨K_, hK_⟩ : ∃ K_ : Nat, K_ = k + d + 1 := ⟨_, rfl⟩
    rw [show k + (d + 1) + 1 = K_ + 1 by omega]
    simp only [scutagelaw31_own.l0]
    rw [hw, if_pos (by omega), if_pos (by omega), if_pos (by omega), hr, wsucc (i + j) (by omega)]
    cases hb : l[i + j] with
    | true =>
      rw [if_pos rfl]
      have e : own l (j + 1) i = own l j i := by
        unfold own
        rw [show j + 1 + i = i + j + 1 by omega, show j + i = i + j by omega, hc, hb]
        simp; omega
      rw [e] at h1
      subst hK_
      exact h1
    | false =>
      rw [if_neg (by simp)]
      have e : own l (j + 1) i = own l j i + 1 := by
        unfold own
        rw [show j + 1 + i = i + j + 1 by omega, show j + i = i + j by omega, hc, hb]
        simp; omega
      rw [e] at h1
      rw [show wrap64 (own l j i + 1) = own l j i + 1 by unfold wrap64; omega]
      subst hK_
      exact h1
theorem own_f (l : List Bool) (hl : l.length ≤ 1000) (n i K : Nat) (h : n + i ≤ l.length) (hK : 1001 ≤ K) : scutagelaw31_own.f K l (i : Int) (n : Int) = some (own l n i) := by
  have := own_go l hl n i h n 0 (K - n - 1) (by omega)
  rw [show K - n - 1 + n + 1 = K by omega] at this
  unfold scutagelaw31_own.f
  have e : own l 0 i = 0 := by unfold own; simp
  rw [e] at this
  simpa using this
theorem least_go (l : List Bool) (hl : l.length ≤ 1000) (n : Nat) (hn : n ≤ l.length) : ∀ d i k : Nat, i + d = l.length + 1 - n → scutagelaw31_least.l0 (k + 1001 + d + 1) l (n : Int) (lev l n i) (i : Int) = some (LV l n) := by
  intro d
  induction d with
  | zero =>
    intro i k hi
    obtain ⟨K_, hK_⟩ : ∃ K_ : Nat, K_ = k + 1001 := ⟨_, rfl⟩
    rw [show k + 1001 + 0 + 1 = K_ + 1 by omega]
    simp only [scutagelaw31_least.l0]
    rw [show wrap64 ((i : Int) + (n : Int)) = ((i + n : Nat) : Int) by unfold wrap64; omega, if_neg (by omega)]
    unfold LV
    rw [show i = l.length + 1 - n by omega]
  | succ d ih =>
    intro i k hi
    obtain ⟨K_, hK_⟩ : ∃ K_ : Nat, K_ = k + 1001 + d + 1 := ⟨_, rfl⟩
    rw [show k + 1001 + (d + 1) + 1 = K_ + 1 by omega]
    simp only [scutagelaw31_least.l0]
    rw [show wrap64 ((i : Int) + (n : Int)) = ((i + n : Nat) : Int) by unfold wrap64; omega, if_pos (by omega), own_f l hl n i _ (by omega) (by omega), Option.bind_some, mn_eq, ← lev_succ l hl n i (by omega), wsucc i (by omega)]
    subst hK_
    exact ih (i + 1) k (by omega)
theorem least_f (l : List Bool) (hl : l.length ≤ 1000) (n K : Nat) (hn : n ≤ l.length) (hK : 2003 ≤ K) : scutagelaw31_least.f K l (n : Int) = some (LV l n) := by
  have := least_go l hl n hn (l.length + 1 - n) 0 (K - 1001 - (l.length + 1 - n) - 1) (by omega)
  rw [show K - 1001 - (l.length + 1 - n) - 1 + 1001 + (l.length + 1 - n) + 1 = K by omega] at this
  exact this

theorem curve_go (l : List Bool) (hl : l.length ≤ 1000) : ∀ d i k : Nat, i + d = l.length → mmu_Curve.l0 (k + d + 1) l (upto (fun j => LV l (j + 1)) i) (l.length : Int) (i : Int) = some (upto (fun j => LV l (j + 1)) l.length) := by
  intro d
  induction d with
  | zero =>
    intro i k hi
    simp only [mmu_Curve.l0]
    rw [if_neg (by omega), show i = l.length by omega]
  | succ d ih =>
    intro i k hi
    obtain ⟨K_, hK_⟩ : ∃ K_ : Nat, K_ = k + d + 1 := ⟨_, rfl⟩
    rw [show k + (d + 1) + 1 = K_ + 1 by omega]
    simp only [mmu_Curve.l0, mmu_Least.f]
    rw [if_pos (by omega), wsucc i (by omega), Least_eq l hl (i + 1) (by omega) (by omega), Option.bind_some, upto_length, if_pos (by omega)]
    subst hK_
    have := ih (i + 1) k (by omega)
    rw [upto_succ] at this
    exact this
theorem curve_f (l : List Bool) (hl : l.length ≤ 1000) (K : Nat) (hK : 1001 ≤ K) : mmu_Curve.f K l = some (upto (fun j => LV l (j + 1)) l.length) := by
  have := curve_go l hl l.length 0 (K - l.length - 1) (by omega)
  rw [show K - l.length - 1 + l.length + 1 = K by omega] at this
  exact this
theorem rd_upto (f : Nat → Int) (n i : Nat) (h : i < n) : rd (upto f n) (i : Int) = f i := by simp [rd, upto, h]

theorem ints_go (a : List Int) (ha : a.length ≤ 1000) : ∀ d i k : Nat, i + d = a.length → scutageplain_Ints.l0 (k + d + 1) a a (i : Int) = some true := by
  intro d
  induction d with
  | zero =>
    intro i k hi
    simp only [scutageplain_Ints.l0]
    rw [if_neg (by omega)]
  | succ d ih =>
    intro i k hi
    obtain ⟨K_, hK_⟩ : ∃ K_ : Nat, K_ = k + d + 1 := ⟨_, rfl⟩
    rw [show k + (d + 1) + 1 = K_ + 1 by omega]
    simp only [scutageplain_Ints.l0]
    rw [if_pos (by omega), if_pos (by omega), if_pos (by omega), if_pos trivial, wsucc i (by omega)]
    subst hK_
    exact ih (i + 1) k (by omega)
theorem ints_f (a : List Int) (ha : a.length ≤ 1000) (K : Nat) (hK : 1001 ≤ K) : scutageplain_Ints.f K a a = some true := by
  have := ints_go a ha a.length 0 (K - a.length - 1) (by omega)
  rw [show K - a.length - 1 + a.length + 1 = K by omega] at this
  unfold scutageplain_Ints.f
  rw [if_pos rfl]
  exact this
theorem j1_true (l : List Bool) (hl : l.length ≤ 90) (n : Int) (K : Nat) (hK : 1001 ≤ K) (r : Int × Bool) (hr : Least l n = some r) (b : Bool) (hb : b = decide (n < 1 ∨ n > (l.length : Int))) :
    scutagelaw31_MmuTells.j1 (K + 1) l n (upto (fun j => LV l (j + 1)) l.length) r.1 r.2 b = some true := by
  have hc := curve_f l (by omega) K hK
  have hi := ints_f (upto (fun j => LV l (j + 1)) l.length) (by rw [upto_length]; omega) K hK
  by_cases h : n < 1 ∨ n > (l.length : Int)
  · rw [decide_eq_true h] at hb
    subst hb
    rw [Least_off l (by omega) n h] at hr
    injection hr with hr
    subst hr
    simp only [scutagelaw31_MmuTells.j1]
    rw [if_pos trivial, if_pos trivial, if_neg (by simp), hc, Option.bind_some, hi, Option.bind_some]
  · rw [decide_eq_false h] at hb
    subst hb
    obtain ⟨m, rfl⟩ := Int.eq_ofNat_of_zero_le (show 0 ≤ n by omega)
    rw [Least_eq l (by omega) m (by omega) (by omega)] at hr
    injection hr with hr
    subst hr
    have hw : wrap64 ((m : Int) - 1) = ((m - 1 : Nat) : Int) := by unfold wrap64; omega
    simp only [scutagelaw31_MmuTells.j1]
    rw [if_neg (by simp), if_pos trivial, hw, if_pos (by omega), upto_length, if_pos (by omega), rd_upto _ _ _ (by omega), show m - 1 + 1 = m by omega, if_pos rfl, hc, Option.bind_some, hi, Option.bind_some]
theorem law_go (l : List Bool) (hl : l.length ≤ 90) (n : Int) : ∀ d i k : Nat, i + d = l.length → scutagelaw31_MmuTells.l0 (k + 3000 + d + 1) l n (upto (fun j => LV l (j + 1)) i) ((i + 1 : Nat) : Int) = some true := by
  intro d
  induction d with
  | zero =>
    intro i k hi
    obtain rfl : i = l.length := by omega
    obtain ⟨K_, hK_⟩ : ∃ K_ : Nat, K_ = k + 3000 := ⟨_, rfl⟩
    rw [show k + 3000 + 0 + 1 = K_ + 1 by omega]
    simp only [scutagelaw31_MmuTells.l0, mmu_Least.f]
    rw [if_neg (by omega)]
    have hj := fun r hr b hb => j1_true l hl n (k + 2999) (by omega) r hr b hb
    rw [show k + 2999 + 1 = K_ by omega] at hj
    by_cases h : n < 1 ∨ n > (l.length : Int)
    · have hL := Least_off l (by omega) n h
      rw [hL, Option.bind_some]
      by_cases h1 : n < 1
      · rw [if_pos h1]
        exact hj _ hL true (by simp [h])
      · rw [if_neg h1]
        exact hj _ hL _ (by simp [h1])
    · obtain ⟨m, rfl⟩ := Int.eq_ofNat_of_zero_le (show 0 ≤ n by omega)
      have hL := Least_eq l (by omega) m (by omega) (by omega)
      rw [hL, Option.bind_some, if_neg (by omega)]
      exact hj _ hL _ (by simp; omega)
  | succ d ih =>
    intro i k hi
    obtain ⟨K_, hK_⟩ : ∃ K_ : Nat, K_ = k + 3000 + d + 1 := ⟨_, rfl⟩
    rw [show k + 3000 + (d + 1) + 1 = K_ + 1 by omega]
    simp only [scutagelaw31_MmuTells.l0]
    rw [if_pos (by omega), least_f l (by omega) (i + 1) _ (by omega) (by omega), Option.bind_some, upto_length, if_pos (by omega), wsucc (i + 1) (by omega)]
    subst hK_
    have := ih (i + 1) k (by omega)
    rw [upto_succ] at this
    exact this
theorem law_true (l : List Bool) (n : Int) : ∃ k, scutagelaw31_MmuTells.f k l n = some true := by
  have hl := few_len l
  refine ⟨3000 + 1 + (l.take 90).length + 60, ?_⟩
  unfold scutagelaw31_MmuTells.f
  rw [alive, Option.bind_some, if_pos rfl, few_f, Option.bind_some]
  have := law_go (l.take 90) hl n (l.take 90).length 0 60 (by omega)
  rw [show 60 + 3000 + (l.take 90).length + 1 = 3000 + 1 + (l.take 90).length + 60 by omega] at this
  exact this

end Go.Proofs.Ytknponfegoclcaa.PureMmuTells
