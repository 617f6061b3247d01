/- Proved: of any letters the Go law MmuPermille answers true (its plain form). -/
import Derived.Test.YtknponfegoclcaaPMmuPermillex2
import Derived.Test.YtknponfegoclcaaMmuPure
namespace Go.Proofs.Ytknponfegoclcaa.PureMmuPermille
open Go.RowKit Go.Proofs.Ytknponfegoclcaa.PMmuPermille Go.Proofs.YtknponfegoclcaaW.PrintWords Go.Proofs.YtknponfegoclcaaW.PrintLast Go.Proofs.YtknponfegoclcaaW.PrintMore
open Go.Proofs.Ytknponfegoclcaa.Mmu (cnt cnt_succ cnt_le cnt_gap own own_range LV lev lev_zero lev_succ LV_le LV_at LV_range LV_up Least Least_eq Least_off near near_range near_int near_near winOf winOf_eq MB Meets Meets_eq MB_most MB_own mn_eq upto upto_succ upto_length)
set_option linter.unusedVariables false

theorem alive_true : scutagelaw31_alive.f 60 = some true := by decide +kernel
theorem alive (K : Nat) : scutagelaw31_alive.f (K + 60) = some true := at_rounds (g := fun m => scutagelaw31_alive.f m) (fun m => scutagelaw31_alive.mono m) (Nat.le_add_left 60 K) alive_true
theorem few_f (l : List Bool) : scutagelaw31_few.f l = some (l.take 90) := by
  unfold scutagelaw31_few.f
  by_cases h : (l.length : Int) > 90
  · rw [if_pos h, if_pos (by omega)]
  · rw [if_neg h, List.take_of_length_le (by omega)]
theorem few_len (l : List Bool) : (l.take 90).length ≤ 90 := by rw [List.length_take]; omega
theorem wsucc (i : Nat) (h : i < 100000) : wrap64 ((i : Int) + 1) = ((i + 1 : Nat) : Int) := by unfold wrap64; omega

theorem own_go (l : List Bool) (hl : l.length ≤ 1000) (n i : Nat) (h : n + i ≤ l.length) : ∀ d j k : Nat, j + d = n → scutagelaw31_own.l0 (k + d + 1) l (i : Int) (n : Int) (own l j i) ((i + j : Nat) : Int) = some (own l n i) := by
  have hw : wrap64 ((i : Int) + (n : Int)) = ((i + n : Nat) : Int) := by unfold wrap64; omega
  intro d
  induction d with
  | zero =>
    intro j k hj
    simp only [scutagelaw31_own.l0]
    rw [hw, if_neg (by omega)]
    obtain rfl : j = n := by omega
    rfl
  | succ d ih =>
    intro j k hj
    have h1 := ih (j + 1) k (by omega)
    have hlt : i + j < l.length := by omega
    have hr : rdOf false l ((i + j : Nat) : Int) = l[i + j] := by rw [rdOf, Int.toNat_natCast, List.getD_eq_getElem?_getD, List.getElem?_eq_getElem hlt]; rfl
    have hc := cnt_succ l (i + j) hlt
    have ho := own_range l j i
    obtain ⟨K_, hK_⟩ : ∃ K_ : Nat, K_ = k + d + 1 := ⟨_, rfl⟩
    rw [show k + (d + 1) + 1 = K_ + 1 by omega]
    simp only [scutagelaw31_own.l0]
    rw [hw, if_pos (by omega), if_pos (by omega), if_pos (by omega), hr, wsucc (i + j) (by omega)]
    cases hb : l[i + j] with
    | true =>
      rw [if_pos rfl]
      have e : own l (j + 1) i = own l j i := by
        unfold own
        rw [show j + 1 + i = i + j + 1 by omega, show j + i = i + j by omega, hc, hb]
        simp; omega
      rw [e] at h1
      subst hK_
      exact h1
    | false =>
      rw [if_neg (by simp)]
      have e : own l (j + 1) i = own l j i + 1 := by
        unfold own
        rw [show j + 1 + i = i + j + 1 by omega, show j + i = i + j by omega, hc, hb]
        simp; omega
      rw [e] at h1
      rw [show wrap64 (own l j i + 1) = own l j i + 1 by unfold wrap64; omega]
      subst hK_
      exact h1
theorem own_f (l : List Bool) (hl : l.length ≤ 1000) (n i K : Nat) (h : n + i ≤ l.length) (hK : 1001 ≤ K) : scutagelaw31_own.f K l (i : Int) (n : Int) = some (own l n i) := by
  have := own_go l hl n i h n 0 (K - n - 1) (by omega)
  rw [show K - n - 1 + n + 1 = K by omega] at this
  unfold scutagelaw31_own.f
  have e : own l 0 i = 0 := by unfold own; simp
  rw [e] at this
  simpa using this
theorem least_go (l : List Bool) (hl : l.length ≤ 1000) (n : Nat) (hn : n ≤ l.length) : ∀ d i k : Nat, i + d = l.length + 1 - n → scutagelaw31_least.l0 (k + 1001 + d + 1) l (n : Int) (lev l n i) (i : Int) = some (LV l n) := by
  intro d
  induction d with
  | zero =>
    intro i k hi
    obtain ⟨K_, hK_⟩ : ∃ K_ : Nat, K_ = k + 1001 := ⟨_, rfl⟩
    rw [show k + 1001 + 0 + 1 = K_ + 1 by omega]
    simp only [scutagelaw31_least.l0]
    rw [show wrap64 ((i : Int) + (n : Int)) = ((i + n : Nat) : Int) by unfold wrap64; omega, if_neg (by omega)]
    unfold LV
    rw [show i = l.length + 1 - n by omega]
  | succ d ih =>
    intro i k hi
    obtain ⟨K_, hK_⟩ : ∃ K_ : Nat, K_ = k + 1001 + d + 1 := ⟨_, rfl⟩
    rw [show k + 1001 + (d + 1) + 1 = K_ + 1 by omega]
    simp only [scutagelaw31_least.l0]
    rw [show wrap64 ((i : Int) + (n : Int)) = ((i + n : Nat) : Int) by unfold wrap64; omega, if_pos (by omega), own_f l hl n i _ (by omega) (by omega), Option.bind_some, mn_eq, ← lev_succ l hl n i (by omega), wsucc i (by omega)]
    subst hK_
    exact ih (i + 1) k (by omega)
theorem least_f (l : List Bool) (hl : l.length ≤ 1000) (n K : Nat) (hn : n ≤ l.length) (hK : 2003 ≤ K) : scutagelaw31_least.f K l (n : Int) = some (LV l n) := by
  have := least_go l hl n hn (l.length + 1 - n) 0 (K - 1001 - (l.length + 1 - n) - 1) (by omega)
  rw [show K - 1001 - (l.length + 1 - n) - 1 + 1001 + (l.length + 1 - n) + 1 = K by omega] at this
  exact this

def q (l : List Bool) (s : Nat) : Int := wrap64 (Int.tdiv (wrap64 (1000 * LV l s)) (s : Int))
def permF (l : List Bool) : Nat → Nat → Int → Int
  | 0, _, acc => acc
  | d + 1, s, acc => permF l d (s + 1) (min acc (q l s))
theorem permF_mono (l : List Bool) : ∀ (d s : Nat) (a b : Int), a ≤ b → permF l d s a ≤ permF l d s b := by
  intro d
  induction d with
  | zero => intro s a b h; exact h
  | succ d ih => intro s a b h; exact ih _ _ _ (by omega)
theorem permF_skip (l : List Bool) : ∀ (t d s : Nat) (a : Int), permF l (d + t) s a ≤ permF l d (s + t) a := by
  intro t
  induction t with
  | zero => intro d s a; exact Int.le_refl _
  | succ t ih =>
    intro d s a
    have h1 : permF l (d + (t + 1)) s a = permF l (d + t) (s + 1) (min a (q l s)) := rfl
    have h2 := permF_mono l (d + t) (s + 1) (min a (q l s)) a (by omega)
    have h3 := ih d (s + 1) a
    rw [show s + 1 + t = s + (t + 1) by omega] at h3
    omega
theorem permF_off (l : List Bool) (d s : Nat) (a : Int) (h : d = 0) : permF l d s a = a := by subst h; rfl
theorem permF_le (l : List Bool) : ∀ (d s : Nat) (a : Int), permF l d s a ≤ a := by
  intro d
  induction d with
  | zero => intro s a; exact Int.le_refl _
  | succ d ih => intro s a; have := ih (s + 1) (min a (q l s)); simp only [permF]; omega
/-- the loop over the sizes from s on -/
def pm (l : List Bool) (s : Nat) : Int := permF l (l.length + 1 - s) s 1000
theorem pm_le (l : List Bool) (s s' : Nat) (h : s ≤ s') : pm l s ≤ pm l s' := by
  unfold pm
  by_cases h1 : s' ≤ l.length + 1
  · have := permF_skip l (s' - s) (l.length + 1 - s') s 1000
    rw [show l.length + 1 - s' + (s' - s) = l.length + 1 - s by omega, show s + (s' - s) = s' by omega] at this
    exact this
  · rw [permF_off l (l.length + 1 - s') s' 1000 (by omega)]
    exact permF_le l _ _ _
theorem permille_go (l : List Bool) (hl : l.length ≤ 1000) : ∀ d s k : Nat, 1 ≤ s → s ≤ 2000 → d = l.length + 1 - s → ∀ acc, mmu_Permille.l0 (k + d + 1) l acc (s : Int) = some (permF l d s acc) := by
  intro d
  induction d with
  | zero =>
    intro s k h1 h2 hd acc
    simp only [mmu_Permille.l0]
    rw [if_neg (by omega)]
    rfl
  | succ d ih =>
    intro s k h1 h2 hd acc
    obtain ⟨K_, hK_⟩ : ∃ K_ : Nat, K_ = k + d + 1 := ⟨_, rfl⟩
    rw [show k + (d + 1) + 1 = K_ + 1 by omega]
    simp only [mmu_Permille.l0, mmu_Least.f]
    rw [if_pos (by omega), Least_eq l hl s (by omega) (by omega), Option.bind_some, if_neg (by omega), mn_eq, wsucc s (by omega)]
    subst hK_
    exact ih (s + 1) k (by omega) (by omega) (by omega) _
theorem size_eq (n : Int) : mmu_size.f n = some ((near n : Nat) : Int) := by
  rw [← near_int]
  unfold mmu_size.f calc_Clamp.f
  repeat' split
  all_goals rfl
theorem near_eq (n : Int) : scutageplain_Near.f n 1 64 = some ((near n : Nat) : Int) := by
  rw [← near_int]
  unfold scutageplain_Near.f
  repeat' split
  all_goals rfl
theorem permille_f (l : List Bool) (hl : l.length ≤ 90) (n : Int) (K : Nat) (hK : 1001 ≤ K) : mmu_Permille.f K l n = some (pm l (near n)) := by
  have hn := near_range n
  unfold mmu_Permille.f
  rw [size_eq, Option.bind_some]
  have := permille_go l (by omega) (l.length + 1 - near n) (near n) (K - (l.length + 1 - near n) - 1) hn.1 (by omega) rfl 1000
  rw [show K - (l.length + 1 - near n) - 1 + (l.length + 1 - near n) + 1 = K by omega] at this
  exact this
theorem near_mono (a b : Int) (h : a ≤ b) : near a ≤ near b := by
  have h1 := near_int a
  have h2 := near_int b
  have : (if a < 1 then (1 : Int) else if a > 64 then 64 else a) ≤ (if b < 1 then (1 : Int) else if b > 64 then 64 else b) := by
    repeat' split
    all_goals omega
  omega
theorem law_go (l : List Bool) (hl : l.length ≤ 90) (n more : Int) : ∀ d s k : Nat, 1 ≤ s → s ≤ 2000 → d = l.length + 1 - s → ∀ acc, permF l d s acc = pm l (near n) → scutagelaw31_MmuPermille.l0 (k + 3000 + d + 1) l n more acc (s : Int) = some true := by
  intro d
  induction d with
  | zero =>
    intro s k h1 h2 hd acc ha
    have ha : acc = pm l (near n) := ha
    obtain ⟨K_, hK_⟩ : ∃ K_ : Nat, K_ = k + 3000 := ⟨_, rfl⟩
    rw [show k + 3000 + 0 + 1 = K_ + 1 by omega]
    simp only [scutagelaw31_MmuPermille.l0]
    rw [if_neg (by omega), permille_f l hl n _ (by omega), Option.bind_some, ha, if_pos rfl]
    by_cases h : more < n
    · rw [if_pos h]
    · rw [if_neg h, permille_f l hl more _ (by omega), Option.bind_some, decide_eq_true (pm_le l _ _ (near_mono n more (by omega)))]
  | succ d ih =>
    intro s k h1 h2 hd acc ha
    obtain ⟨K_, hK_⟩ : ∃ K_ : Nat, K_ = k + 3000 + d + 1 := ⟨_, rfl⟩
    rw [show k + 3000 + (d + 1) + 1 = K_ + 1 by omega]
    simp only [scutagelaw31_MmuPermille.l0]
    rw [if_pos (by omega), least_f l (by omega) s _ (by omega) (by omega), Option.bind_some, if_neg (by omega), mn_eq, wsucc s (by omega)]
    subst hK_
    exact ih (s + 1) k (by omega) (by omega) (by omega) _ ha
theorem law_true (l : List Bool) (n more : Int) : ∃ k, scutagelaw31_MmuPermille.f k l n more = some true := by
  have hl := few_len l
  have hn := near_range n
  refine ⟨3000 + 1 + ((l.take 90).length + 1 - near n) + 60, ?_⟩
  unfold scutagelaw31_MmuPermille.f
  rw [alive, Option.bind_some, if_pos rfl, few_f, Option.bind_some, near_eq, Option.bind_some]
  have := law_go (l.take 90) hl n more ((l.take 90).length + 1 - near n) (near n) 60 hn.1 (by omega) rfl 1000 rfl
  rw [show 60 + 3000 + ((l.take 90).length + 1 - near n) + 1 = 3000 + 1 + ((l.take 90).length + 1 - near n) + 60 by omega] at this
  exact this

end Go.Proofs.Ytknponfegoclcaa.PureMmuPermille
