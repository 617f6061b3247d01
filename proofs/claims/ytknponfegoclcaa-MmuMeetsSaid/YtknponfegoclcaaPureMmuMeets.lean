/- Proved: of any letters the Go law MmuMeets answers true (its plain form). -/
import Derived.Test.YtknponfegoclcaaPMmuMeetsx3
import Derived.Test.YtknponfegoclcaaMmuPure
namespace Go.Proofs.Ytknponfegoclcaa.PureMmuMeets
open Go.RowKit Go.Proofs.Ytknponfegoclcaa.PMmuMeets Go.Proofs.YtknponfegoclcaaW.PrintWords Go.Proofs.YtknponfegoclcaaW.PrintLast Go.Proofs.YtknponfegoclcaaW.PrintMore
open Go.Proofs.Ytknponfegoclcaa.Mmu (cnt cnt_succ cnt_le cnt_gap own own_range LV lev lev_zero lev_succ LV_le LV_at LV_range LV_up Least Least_eq Least_off near near_range near_int near_near winOf winOf_eq MB Meets Meets_eq MB_most MB_own mn_eq upto upto_succ upto_length)
set_option linter.unusedVariables false

theorem alive_true : scutagelaw31_alive.f 60 = some true := by decide +kernel
theorem alive (K : Nat) : scutagelaw31_alive.f (K + 60) = some true := at_rounds (g := fun m => scutagelaw31_alive.f m) (fun m => scutagelaw31_alive.mono m) (Nat.le_add_left 60 K) alive_true
theorem few_f (l : List Bool) : scutagelaw31_few.f l = some (l.take 90) := by
  unfold scutagelaw31_few.f
  by_cases h : (l.length : Int) > 90
  · rw [if_pos h, if_pos (by omega)]
  · rw [if_neg h, List.take_of_length_le (by omega)]
theorem few_len (l : List Bool) : (l.take 90).length ≤ 90 := by rw [List.length_take]; omega
theorem wsucc (i : Nat) (h : i < 100000) : wrap64 ((i : Int) + 1) = ((i + 1 : Nat) : Int) := by unfold wrap64; omega

theorem own_go (l : List Bool) (hl : l.length ≤ 1000) (n i : Nat) (h : n + i ≤ l.length) : ∀ d j k : Nat, j + d = n → scutagelaw31_own.l0 (k + d + 1) l (i : Int) (n : Int) (own l j i) ((i + j : Nat) : Int) = some (own l n i) := by
  have hw : wrap64 ((i : Int) + (n : Int)) = ((i + n : Nat) : Int) := by unfold wrap64; omega
  intro d
  induction d with
  | zero =>
    intro j k hj
    simp only [scutagelaw31_own.l0]
    rw [hw, if_neg (by omega)]
    obtain rfl : j = n := by omega
    rfl
  | succ d ih =>
    intro j k hj
    have h1 := ih (j + 1) k (by omega)
    have hlt : i + j < l.length := by omega
    have hr : rdOf false l ((i + j : Nat) : Int) = l[i + j] := by rw [rdOf, Int.toNat_natCast, List.getD_eq_getElem?_getD, List.getElem?_eq_getElem hlt]; rfl
    have hc := cnt_succ l (i + j) hlt
    have ho := own_range l j i
    obtain ⟨K_, hK_⟩ : ∃ K_ : Nat, K_ = k + d + 1 := ⟨_, rfl⟩
    rw [show k + (d + 1) + 1 = K_ + 1 by omega]
    simp only [scutagelaw31_own.l0]
    rw [hw, if_pos (by omega), if_pos (by omega), if_pos (by omega), hr, wsucc (i + j) (by omega)]
    cases hb : l[i + j] with
    | true =>
      rw [if_pos rfl]
      have e : own l (j + 1) i = own l j i := by
        unfold own
        rw [show j + 1 + i = i + j + 1 by omega, show j + i = i + j by omega, hc, hb]
        simp; omega
      rw [e] at h1
      subst hK_
      exact h1
    | false =>
      rw [if_neg (by simp)]
      have e : own l (j + 1) i = own l j i + 1 := by
        unfold own
        rw [show j + 1 + i = i + j + 1 by omega, show j + i = i + j by omega, hc, hb]
        simp; omega
      rw [e] at h1
      rw [show wrap64 (own l j i + 1) = own l j i + 1 by unfold wrap64; omega]
      subst hK_
      exact h1
theorem own_f (l : List Bool) (hl : l.length ≤ 1000) (n i K : Nat) (h : n + i ≤ l.length) (hK : 1001 ≤ K) : scutagelaw31_own.f K l (i : Int) (n : Int) = some (own l n i) := by
  have := own_go l hl n i h n 0 (K - n - 1) (by omega)
  rw [show K - n - 1 + n + 1 = K by omega] at this
  unfold scutagelaw31_own.f
  have e : own l 0 i = 0 := by unfold own; simp
  rw [e] at this
  simpa using this
theorem least_go (l : List Bool) (hl : l.length ≤ 1000) (n : Nat) (hn : n ≤ l.length) : ∀ d i k : Nat, i + d = l.length + 1 - n → scutagelaw31_least.l0 (k + 1001 + d + 1) l (n : Int) (lev l n i) (i : Int) = some (LV l n) := by
  intro d
  induction d with
  | zero =>
    intro i k hi
    obtain ⟨K_, hK_⟩ : ∃ K_ : Nat, K_ = k + 1001 := ⟨_, rfl⟩
    rw [show k + 1001 + 0 + 1 = K_ + 1 by omega]
    simp only [scutagelaw31_least.l0]
    rw [show wrap64 ((i : Int) + (n : Int)) = ((i + n : Nat) : Int) by unfold wrap64; omega, if_neg (by omega)]
    unfold LV
    rw [show i = l.length + 1 - n by omega]
  | succ d ih =>
    intro i k hi
    obtain ⟨K_, hK_⟩ : ∃ K_ : Nat, K_ = k + 1001 + d + 1 := ⟨_, rfl⟩
    rw [show k + 1001 + (d + 1) + 1 = K_ + 1 by omega]
    simp only [scutagelaw31_least.l0]
    rw [show wrap64 ((i : Int) + (n : Int)) = ((i + n : Nat) : Int) by unfold wrap64; omega, if_pos (by omega), own_f l hl n i _ (by omega) (by omega), Option.bind_some, mn_eq, ← lev_succ l hl n i (by omega), wsucc i (by omega)]
    subst hK_
    exact ih (i + 1) k (by omega)
theorem least_f (l : List Bool) (hl : l.length ≤ 1000) (n K : Nat) (hn : n ≤ l.length) (hK : 2003 ≤ K) : scutagelaw31_least.f K l (n : Int) = some (LV l n) := by
  have := least_go l hl n hn (l.length + 1 - n) 0 (K - 1001 - (l.length + 1 - n) - 1) (by omega)
  rw [show K - 1001 - (l.length + 1 - n) - 1 + 1001 + (l.length + 1 - n) + 1 = K by omega] at this
  exact this

theorem size_eq (n : Int) : mmu_size.f n = some ((near n : Nat) : Int) := by
  rw [← near_int]
  unfold mmu_size.f calc_Clamp.f
  repeat' split
  all_goals rfl
theorem near_eq (n : Int) : scutageplain_Near.f n 1 64 = some ((near n : Nat) : Int) := by
  rw [← near_int]
  unfold scutageplain_Near.f
  repeat' split
  all_goals rfl
theorem meets_f (l : List Bool) (hl : l.length ≤ 1000) (n most : Int) (K : Nat) (hK : 2003 ≤ K) : scutagelaw31_meets.f K l n most = some (MB l n most) := by
  have hn := near_range n
  have hw := winOf_eq l n
  have hm : mn ((near n : Nat) : Int) (l.length : Int) = ((winOf l n : Nat) : Int) := by rw [mn_eq]; omega
  have hr := LV_range l hl (winOf l n) (by omega)
  unfold scutagelaw31_meets.f
  rw [near_eq, Option.bind_some, hm, least_f l hl (winOf l n) K (by omega) hK, Option.bind_some]
  unfold MB
  rw [show wrap64 (((winOf l n : Nat) : Int) - LV l (winOf l n)) = ((winOf l n : Nat) : Int) - LV l (winOf l n) by unfold wrap64; omega]
theorem MB_near (l : List Bool) (n most : Int) : MB l ((near n : Nat) : Int) most = MB l n most := by
  unfold MB
  rw [winOf_eq, winOf_eq, near_near]
def trues (l : List Bool) (k : Nat) : List Bool := l ++ List.replicate k true
theorem trues_length (l : List Bool) (k : Nat) : (trues l k).length = l.length + k := by simp [trues]
theorem trues_succ (l : List Bool) (k : Nat) : trues l (k + 1) = trues l k ++ [true] := by unfold trues; rw [List.replicate_succ', List.append_assoc]
theorem room_go (l : List Bool) (hl : l.length ≤ 90) (n most : Int) : ∀ d i k : Nat, i + d = near n → MB (trues l i) n most = true →
    ∃ r, i ≤ r ∧ r ≤ near n ∧ MB (trues l r) n most = true ∧ (r = near n ∨ MB (trues l (r + 1)) n most = false) ∧ mmu_Room.l0 (k + d + 1) ((near n : Nat) : Int) most (trues l i) ((near n : Nat) : Int) (i : Int) = some (r : Int) := by
  have hn := near_range n
  intro d
  induction d with
  | zero =>
    intro i k hi hM
    refine ⟨i, Nat.le_refl _, by omega, hM, .inl (by omega), ?_⟩
    simp only [mmu_Room.l0]
    rw [if_neg (by omega), show i = near n by omega]
  | succ d ih =>
    intro i k hi hM
    have e : mmu_Room.l0 (k + (d + 1) + 1) ((near n : Nat) : Int) most (trues l i) ((near n : Nat) : Int) (i : Int) = if MB (trues l (i + 1)) n most = true then mmu_Room.l0 (k + d + 1) ((near n : Nat) : Int) most (trues l (i + 1)) ((near n : Nat) : Int) ((i + 1 : Nat) : Int) else some (i : Int) := by
      obtain ⟨K_, hK_⟩ : ∃ K_ : Nat, K_ = k + d + 1 := ⟨_, rfl⟩
      rw [← hK_, show k + (d + 1) + 1 = K_ + 1 by omega]
      conv => lhs; simp only [mmu_Room.l0, mmu_Meets.f]
      rw [if_pos (by omega), trues_length, if_pos (by omega), Option.bind_some, ← trues_succ, Meets_eq _ (by rw [trues_length]; omega), Option.bind_some, MB_near, wsucc i (by omega)]
    rw [e]
    by_cases hM2 : MB (trues l (i + 1)) n most = true
    · obtain ⟨r, h1, h2, h3, h4, h5⟩ := ih (i + 1) k (by omega) hM2
      exact ⟨r, by omega, h2, h3, h4, by rw [if_pos hM2]; exact h5⟩
    · exact ⟨i, Nat.le_refl _, by omega, hM, .inr (by simpa using hM2), by rw [if_neg hM2]⟩
theorem room_f (l : List Bool) (hl : l.length ≤ 90) (n most : Int) (K : Nat) (hK : 100 ≤ K) (hM : MB l n most = true) :
    ∃ r, r ≤ near n ∧ MB (trues l r) n most = true ∧ (r = near n ∨ MB (trues l (r + 1)) n most = false) ∧ mmu_Room.f K l n most = some (r : Int) := by
  have hn := near_range n
  have t0 : trues l 0 = l := by simp [trues]
  obtain ⟨r, _, h2, h3, h4, h5⟩ := room_go l hl n most (near n) 0 (K - near n - 1) (by omega) (by rw [t0]; exact hM)
  refine ⟨r, h2, h3, h4, ?_⟩
  rw [show K - near n - 1 + near n + 1 = K by omega, t0] at h5
  unfold mmu_Room.f mmu_Meets.f
  rw [Meets_eq l (by omega), Option.bind_some, hM, if_pos rfl, size_eq, Option.bind_some, Option.bind_some, if_pos (by simp; omega), List.nil_append]
  exact h5
theorem room_no (l : List Bool) (hl : l.length ≤ 90) (n most : Int) (K : Nat) (hM : MB l n most = false) : mmu_Room.f K l n most = some (-1) := by
  unfold mmu_Room.f mmu_Meets.f
  rw [Meets_eq l (by omega), Option.bind_some, hM, if_neg (by simp)]
theorem law_go (l : List Bool) (hl : l.length ≤ 90) (n most : Int) (r : Nat) (hr : r ≤ near n) (h1 : MB (trues l r) n most = true) (h2 : r = near n ∨ MB (trues l (r + 1)) n most = false) :
    ∀ d i k : Nat, i + d = r → scutagelaw31_MmuMeets.l0 (k + 3000 + d + 1) n most (r : Int) ((near n : Nat) : Int) (trues l i) (i : Int) = some true := by
  have hn := near_range n
  intro d
  induction d with
  | zero =>
    intro i k hi
    obtain rfl : i = r := by omega
    obtain ⟨K_, hK_⟩ : ∃ K_ : Nat, K_ = k + 3000 := ⟨_, rfl⟩
    rw [show k + 3000 + 0 + 1 = K_ + 1 by omega]
    simp only [scutagelaw31_MmuMeets.l0]
    rw [if_neg (by omega), meets_f _ (by rw [trues_length]; omega) n most _ (by omega), Option.bind_some, h1, if_pos rfl, trues_length, if_pos (by omega)]
    by_cases hc : (i : Int) = ((near n : Nat) : Int)
    · rw [if_pos hc]
    · rw [if_neg hc, ← trues_succ, meets_f _ (by rw [trues_length]; omega) n most _ (by omega), Option.bind_some]
      rcases h2 with h2 | h2
      · omega
      · rw [h2]; rfl
  | succ d ih =>
    intro i k hi
    obtain ⟨K_, hK_⟩ : ∃ K_ : Nat, K_ = k + 3000 + d + 1 := ⟨_, rfl⟩
    rw [show k + 3000 + (d + 1) + 1 = K_ + 1 by omega]
    simp only [scutagelaw31_MmuMeets.l0]
    rw [if_pos (by omega), trues_length, if_pos (by omega), ← trues_succ, wsucc i (by omega)]
    subst hK_
    exact ih (i + 1) k (by omega)
theorem law_true (l : List Bool) (n most : Int) : ∃ k, scutagelaw31_MmuMeets.f k l n most = some true := by
  obtain ⟨L, hL⟩ : ∃ L, L = l.take 90 := ⟨_, rfl⟩
  have hl : L.length ≤ 90 := hL ▸ few_len l
  have hn := near_range n
  refine ⟨4000 + 60, ?_⟩
  unfold scutagelaw31_MmuMeets.f
  rw [alive, Option.bind_some, if_pos rfl, few_f, Option.bind_some, ← hL]
  unfold mmu_Meets.f
  rw [Meets_eq L (by omega), Option.bind_some, meets_f L (by omega) n most _ (by omega), Option.bind_some, if_neg (by simp)]
  cases hM : MB L n most with
  | false => rw [room_no L hl n most _ hM, Option.bind_some, Option.bind_some, if_neg (by simp)]; rfl
  | true =>
    obtain ⟨r, h1, h2, h3, h4⟩ := room_f L hl n most (4000 + 60) (by omega) hM
    rw [h4, Option.bind_some, Option.bind_some, if_pos rfl, near_eq, Option.bind_some, if_neg (by omega), decide_eq_false (by omega)]
    have t0 : trues L 0 = L := by simp [trues]
    obtain ⟨K_, hK_⟩ : ∃ K_ : Nat, K_ = 4059 := ⟨_, rfl⟩
    rw [show 4000 + 60 = K_ + 1 by omega]
    simp only [scutagelaw31_MmuMeets.j0]
    rw [if_neg (by simp), if_pos (by simp; omega), List.nil_append]
    have := law_go L hl n most r h1 h2 h3 r 0 (4059 - 3000 - r - 1) (by omega)
    rw [show 4059 - 3000 - r - 1 + 3000 + r + 1 = K_ by omega, t0] at this
    exact this

end Go.Proofs.Ytknponfegoclcaa.PureMmuMeets
