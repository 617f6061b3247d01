/- Proved: of any letters the Go law MmuRises answers true (its plain form). -/
import Derived.Test.YtknponfegoclcaaPMmuRisesx2
import Derived.Test.YtknponfegoclcaaMmuPure
namespace Go.Proofs.Ytknponfegoclcaa.PureMmuRises
open Go.RowKit Go.Proofs.Ytknponfegoclcaa.PMmuRises Go.Proofs.YtknponfegoclcaaW.PrintWords Go.Proofs.YtknponfegoclcaaW.PrintLast Go.Proofs.YtknponfegoclcaaW.PrintMore
open Go.Proofs.Ytknponfegoclcaa.Mmu (cnt cnt_succ cnt_le cnt_gap own own_range LV lev lev_zero lev_succ LV_le LV_at LV_range LV_up Least Least_eq Least_off near near_range near_int near_near winOf winOf_eq MB Meets Meets_eq MB_most MB_own mn_eq upto upto_succ upto_length)
set_option linter.unusedVariables false

theorem alive_true : scutagelaw31_alive.f 60 = some true := by decide +kernel
theorem alive (K : Nat) : scutagelaw31_alive.f (K + 60) = some true := at_rounds (g := fun m => scutagelaw31_alive.f m) (fun m => scutagelaw31_alive.mono m) (Nat.le_add_left 60 K) alive_true
theorem few_f (l : List Bool) : scutagelaw31_few.f l = some (l.take 90) := by
  unfold scutagelaw31_few.f
  by_cases h : (l.length : Int) > 90
  · rw [if_pos h, if_pos (by omega)]
  · rw [if_neg h, List.take_of_length_le (by omega)]
theorem few_len (l : List Bool) : (l.take 90).length ≤ 90 := by rw [List.length_take]; omega
theorem wsucc (i : Nat) (h : i < 100000) : wrap64 ((i : Int) + 1) = ((i + 1 : Nat) : Int) := by unfold wrap64; omega

theorem curve_go (l : List Bool) (hl : l.length ≤ 1000) : ∀ d i k : Nat, i + d = l.length → mmu_Curve.l0 (k + d + 1) l (upto (fun j => LV l (j + 1)) i) (l.length : Int) (i : Int) = some (upto (fun j => LV l (j + 1)) l.length) := by
  intro d
  induction d with
  | zero =>
    intro i k hi
    simp only [mmu_Curve.l0]
    rw [if_neg (by omega), show i = l.length by omega]
  | succ d ih =>
    intro i k hi
    obtain ⟨K_, hK_⟩ : ∃ K_ : Nat, K_ = k + d + 1 := ⟨_, rfl⟩
    rw [show k + (d + 1) + 1 = K_ + 1 by omega]
    simp only [mmu_Curve.l0, mmu_Least.f]
    rw [if_pos (by omega), wsucc i (by omega), Least_eq l hl (i + 1) (by omega) (by omega), Option.bind_some, upto_length, if_pos (by omega)]
    subst hK_
    have := ih (i + 1) k (by omega)
    rw [upto_succ] at this
    exact this
theorem curve_f (l : List Bool) (hl : l.length ≤ 1000) (K : Nat) (hK : 1001 ≤ K) : mmu_Curve.f K l = some (upto (fun j => LV l (j + 1)) l.length) := by
  have := curve_go l hl l.length 0 (K - l.length - 1) (by omega)
  rw [show K - l.length - 1 + l.length + 1 = K by omega] at this
  exact this
theorem rd_upto (f : Nat → Int) (n i : Nat) (h : i < n) : rd (upto f n) (i : Int) = f i := by simp [rd, upto, h]

theorem j1_true (l : List Bool) (hl : l.length ≤ 90) (n most : Int) (h0 : -9223372036854775808 ≤ most ∧ most ≤ 9223372036854775807) (K : Nat) (b : Bool) (hM : b = false → MB l n most = true ∧ most ≠ 9223372036854775807) :
    scutagelaw31_MmuRises.j1 (K + 1) l n most b = some true := by
  simp only [scutagelaw31_MmuRises.j1]
  cases b with
  | true => rw [if_pos rfl]
  | false =>
    obtain ⟨h1, h2⟩ := hM rfl
    unfold mmu_Meets.f
    rw [if_neg (by simp), if_pos (by simp; omega), Option.bind_some, List.nil_append, if_pos (by omega), Meets_eq _ (by simp; omega), Option.bind_some, MB_own l (by omega) n most h1, if_pos rfl,
      show wrap64 (most + 1) = most + 1 by unfold wrap64; omega, Meets_eq l (by omega), Option.bind_some, MB_most l n most h1]
theorem law_go (l : List Bool) (hl : l.length ≤ 90) (n most : Int) (h0 : -9223372036854775808 ≤ most ∧ most ≤ 9223372036854775807) : ∀ d i k : Nat, i + d = l.length ∨ (d = 0 ∧ l.length < i) → 1 ≤ i → i ≤ 200 → scutagelaw31_MmuRises.l0 (k + d + 2) l n most (upto (fun j => LV l (j + 1)) l.length) (i : Int) = some true := by
  intro d
  induction d with
  | zero =>
    intro i k hi h1 hi2
    simp only [scutagelaw31_MmuRises.l0]
    rw [upto_length, if_neg (by omega)]
    unfold mmu_Meets.f
    rw [Meets_eq l (by omega), Option.bind_some]
    cases hM : MB l n most with
    | false => rw [if_neg (by simp)]; exact j1_true l hl n most h0 k true (fun h => by cases h)
    | true =>
      rw [if_pos rfl]
      exact j1_true l hl n most h0 k _ (fun h => ⟨hM, by simpa using h⟩)
  | succ d ih =>
    intro i k hi h1 hi2
    have hlt : i < l.length := by omega
    obtain ⟨K_, hK_⟩ : ∃ K_ : Nat, K_ = k + d + 2 := ⟨_, rfl⟩
    rw [show k + (d + 1) + 2 = K_ + 1 by omega]
    simp only [scutagelaw31_MmuRises.l0]
    have hw : wrap64 ((i : Int) - 1) = ((i - 1 : Nat) : Int) := by unfold wrap64; omega
    have hu := LV_up l (by omega) i (by omega)
    have hr := LV_range l (by omega) i (by omega)
    rw [upto_length, if_pos (by omega), if_pos (by omega), hw, if_pos (by omega), if_pos (by omega), rd_upto _ _ _ hlt, rd_upto _ _ _ (by omega), show i - 1 + 1 = i by omega, if_neg (by omega),
      show wrap64 (LV l i + 1) = LV l i + 1 by unfold wrap64; omega, if_neg (by omega), wsucc i (by omega)]
    subst hK_
    exact ih (i + 1) k (by omega) (by omega) (by omega)
theorem law_true (l : List Bool) (n most : Int) (h0 : -9223372036854775808 ≤ most ∧ most ≤ 9223372036854775807) : ∃ k, scutagelaw31_MmuRises.f k l n most = some true := by
  have hl := few_len l
  obtain ⟨L, hL⟩ : ∃ L, L = l.take 90 := ⟨_, rfl⟩
  rw [← hL] at hl
  refine ⟨4000 + 60, ?_⟩
  unfold scutagelaw31_MmuRises.f
  rw [alive, Option.bind_some, if_pos rfl, few_f, Option.bind_some, ← hL, curve_f L (by omega) _ (by omega), Option.bind_some]
  by_cases hc : 1 ≤ L.length
  · have := law_go L hl n most h0 (L.length - 1) 1 (4060 - (L.length - 1) - 2) (.inl (by omega)) (by omega) (by omega)
    rw [show 4060 - (L.length - 1) - 2 + (L.length - 1) + 2 = 4000 + 60 by omega] at this
    exact this
  · exact law_go L hl n most h0 0 1 4058 (.inr ⟨rfl, by omega⟩) (by omega) (by omega)

end Go.Proofs.Ytknponfegoclcaa.PureMmuRises
