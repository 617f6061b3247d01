/- Proved: for all page numbers, class numbers, cell numbers and addresses the Go law GeoCells answers true (its plain form; no condition beside the numbers being of int's kind). -/
import Derived.Test.YtikoiaeoajbobaaPGeoCellsx2
namespace Go.Proofs.Ytikoiaeoajbobaa.Pure
open Go.RowKit Go.Proofs.Ytikoiaeoajbobaa.PGeoCells Go.Proofs.YtikoiaeoajbobaaW.PrintWords Go.Proofs.YtikoiaeoajbobaaW.PrintLast

theorem wrap_id {x : Int} (h0 : -9223372036854775808 ≤ x) (h1 : x < 9223372036854775808) : wrap64 x = x := by
  unfold wrap64; omega

/-- what a class's size and cells are -/
def SC (s c : Int) : Prop := (s = 2 ∧ c = 16) ∨ (s = 4 ∧ c = 8) ∨ (s = 8 ∧ c = 4) ∨ (s = 16 ∧ c = 2)

theorem class_cases (k : Int) : (class_Size.f k = some 0 ∧ class_Cells.f k = some 0 ∧ (k < 1 ∨ 4 < k)) ∨
    ∃ s c, SC s c ∧ class_Size.f k = some s ∧ class_Cells.f k = some c ∧ ((k = 1 ∧ s = 2) ∨ (k = 2 ∧ s = 4) ∨ (k = 3 ∧ s = 8) ∨ (k = 4 ∧ s = 16)) := by
  by_cases h1 : k < 1
  · have e : class_Size.f k = some 0 := by unfold class_Size.f; rw [if_pos h1]
    exact .inl ⟨e, by unfold class_Cells.f; rw [e]; rfl, .inl h1⟩
  by_cases h5 : 5 ≤ k
  · have e : class_Size.f k = some 0 := by unfold class_Size.f; rw [if_neg h1, if_pos h5]
    exact .inl ⟨e, by unfold class_Cells.f; rw [e]; rfl, .inr (by omega)⟩
  have : k = 1 ∨ k = 2 ∨ k = 3 ∨ k = 4 := by omega
  rcases this with rfl | rfl | rfl | rfl
  · exact .inr ⟨2, 16, .inl ⟨rfl, rfl⟩, by decide +kernel, by decide +kernel, by omega⟩
  · exact .inr ⟨4, 8, .inr (.inl ⟨rfl, rfl⟩), by decide +kernel, by decide +kernel, by omega⟩
  · exact .inr ⟨8, 4, .inr (.inr (.inl ⟨rfl, rfl⟩)), by decide +kernel, by decide +kernel, by omega⟩
  · exact .inr ⟨16, 2, .inr (.inr (.inr ⟨rfl, rfl⟩)), by decide +kernel, by decide +kernel, by omega⟩

theorem page_in {a : Int} (h0 : 0 ≤ a) (h1 : a < 2048) : geo_Page.f a = some (a / 32) := by
  unfold geo_Page.f
  rw [if_neg (by omega), if_neg (by omega), Int.tdiv_eq_ediv_of_nonneg h0, wrap_id (by omega) (by omega)]
theorem page_out {a : Int} (h : a < 0 ∨ 2047 < a) : geo_Page.f a = some (-1) := by
  unfold geo_Page.f
  rcases h with h | h
  · rw [if_pos h]
  · rw [if_neg (by omega), if_pos (by omega)]
theorem offset_in {a : Int} (h0 : 0 ≤ a) (h1 : a < 2048) : geo_Offset.f a = some (a % 32) := by
  unfold geo_Offset.f
  rw [page_in h0 h1]; simp only [Option.bind_some]
  rw [if_neg (by omega), Int.tmod_eq_emod_of_nonneg h0]
theorem offset_out {a : Int} (h : a < 0 ∨ 2047 < a) : geo_Offset.f a = some (-1) := by
  unfold geo_Offset.f
  rw [page_out h]; rfl
theorem base_in {k a s c : Int} (hs : class_Size.f k = some s) (hsc : SC s c) (h0 : 0 ≤ a) (h1 : a < 2048) : geo_Base.f k a = some (a - a % s) := by
  unfold geo_Base.f
  rw [hs, page_in h0 h1]; simp only [Option.bind_some]
  have hs0 : s ≠ 0 := by unfold SC at hsc; omega
  rw [if_neg hs0, if_neg (by omega), if_neg hs0, Int.tmod_eq_emod_of_nonneg h0]
  have : 0 ≤ a % s := Int.emod_nonneg _ hs0
  have : a % s < s := Int.emod_lt_of_pos _ (by unfold SC at hsc; omega)
  rw [wrap_id (by unfold SC at hsc; omega) (by omega)]
theorem base_out {k a s : Int} (hs : class_Size.f k = some s) (h : s = 0 ∨ a < 0 ∨ 2047 < a) : geo_Base.f k a = some (-1) := by
  unfold geo_Base.f
  rw [hs]; simp only [Option.bind_some]
  by_cases hs0 : s = 0
  · rw [if_pos hs0]
  · rw [if_neg hs0, page_out (by omega)]; rfl
theorem cell_out {n : Nat} {k a s : Int} (hs : class_Size.f k = some s) (h : s = 0 ∨ a < 0 ∨ 2047 < a) : geo_Cell.f (n + 1) k a = some (0, false) := by
  unfold geo_Cell.f
  rw [base_out hs h]; rfl
theorem cell_odd {n : Nat} {k a s c : Int} (hs : class_Size.f k = some s) (hsc : SC s c) (h0 : 0 ≤ a) (h1 : a < 2048) (hm : a % s ≠ 0) : geo_Cell.f (n + 1) k a = some (0, false) := by
  unfold geo_Cell.f
  rw [base_in hs hsc h0 h1]; simp only [Option.bind_some]
  have hs0 : s ≠ 0 := by unfold SC at hsc; omega
  have e : (a - a % s != a) = true := by rw [bne_iff_ne]; omega
  by_cases hb : a - a % s < 0
  · rw [if_pos hb]; rfl
  · rw [if_neg hb, e]; rfl
theorem cell_in {n : Nat} {k a s c : Int} (hs : class_Size.f k = some s) (hsc : SC s c) (h0 : 0 ≤ a) (h1 : a < 2048) (hm : a % s = 0) : geo_Cell.f (n + 1) k a = some (a % 32 / s, true) := by
  unfold geo_Cell.f
  rw [base_in hs hsc h0 h1]; simp only [Option.bind_some]
  have hs0 : s ≠ 0 := by unfold SC at hsc; omega
  have e : (a - a % s != a) = false := by rw [bne_eq_false_iff_eq]; omega
  rw [if_neg (by omega), e]
  simp only [geo_Cell.j0]
  rw [if_neg (by decide), offset_in h0 h1, hs]; simp only [Option.bind_some]
  rw [if_neg hs0, Int.tdiv_eq_ediv_of_nonneg (by omega)]
  have : 0 ≤ a % 32 / s ∧ a % 32 / s < 100 := by
    unfold SC at hsc
    rcases hsc with ⟨rfl, _⟩ | ⟨rfl, _⟩ | ⟨rfl, _⟩ | ⟨rfl, _⟩ <;> omega
  rw [wrap_id (by omega) (by omega)]
theorem at_out {p k i c : Int} (hc : class_Cells.f k = some c) (h : p < 0 ∨ 63 < p ∨ i < 0 ∨ c ≤ i) : geo_At.f p k i = some (0, false) := by
  unfold geo_At.f
  by_cases h1 : p < 0
  · rw [if_pos h1]
  by_cases h2 : p ≥ 64
  · rw [if_neg h1, if_pos h2]
  by_cases h3 : i < 0
  · rw [if_neg h1, if_neg h2, if_pos h3]
  rw [if_neg h1, if_neg h2, if_neg h3, hc]; simp only [Option.bind_some]
  rw [if_pos (by omega)]
theorem at_in {p k i s c : Int} (hs : class_Size.f k = some s) (hc : class_Cells.f k = some c) (hsc : SC s c) (h0 : 0 ≤ p) (h1 : p ≤ 63) (h2 : 0 ≤ i) (h3 : i < c) :
    geo_At.f p k i = some (32 * p + i * s, true) := by
  unfold geo_At.f
  rw [if_neg (by omega), if_neg (by omega), if_neg (by omega), hc]; simp only [Option.bind_some]
  rw [if_neg (by omega), hs]; simp only [Option.bind_some]
  have : 0 ≤ i * s ∧ i * s ≤ 32 := by
    unfold SC at hsc
    rcases hsc with ⟨rfl, rfl⟩ | ⟨rfl, rfl⟩ | ⟨rfl, rfl⟩ | ⟨rfl, rfl⟩ <;> omega
  rw [wrap_id (x := p * 32) (by omega) (by omega), wrap_id (x := i * s) (by omega) (by omega), wrap_id (by omega) (by omega), Int.mul_comm p 32]
theorem ref_of {k s : Int} (h : (k = 1 ∧ s = 2) ∨ (k = 2 ∧ s = 4) ∨ (k = 3 ∧ s = 8) ∨ (k = 4 ∧ s = 16)) : scutageref06_Size.f k = some s := by
  rcases h with ⟨rfl, rfl⟩ | ⟨rfl, rfl⟩ | ⟨rfl, rfl⟩ | ⟨rfl, rfl⟩ <;> rfl
theorem ref_none {k : Int} (h : k < 1 ∨ 4 < k) : scutageref06_Size.f k = some 0 := by
  unfold scutageref06_Size.f; rw [if_neg (by omega), if_neg (by omega), if_neg (by omega), if_neg (by omega)]
theorem refcells_of {k s c : Int} (hsc : SC s c) (h : (k = 1 ∧ s = 2) ∨ (k = 2 ∧ s = 4) ∨ (k = 3 ∧ s = 8) ∨ (k = 4 ∧ s = 16)) : scutageref06_Cells.f k = some c := by
  unfold SC at hsc
  rcases h with ⟨rfl, rfl⟩ | ⟨rfl, rfl⟩ | ⟨rfl, rfl⟩ | ⟨rfl, rfl⟩
  · obtain rfl : c = 16 := by omega
    decide +kernel
  · obtain rfl : c = 8 := by omega
    decide +kernel
  · obtain rfl : c = 4 := by omega
    decide +kernel
  · obtain rfl : c = 2 := by omega
    decide +kernel
theorem alive_true : scutagelaw07_alive.f 9 = some true := by decide +kernel

/-- the second half of the law, no class -/
theorem half_none {n : Nat} {k a : Int} (hs : class_Size.f k = some 0) : scutagelaw07_GeoCells.j1 (n + 3) k a 0 = some true := by
  simp only [scutagelaw07_GeoCells.j1]
  rw [cell_out hs (.inl rfl)]; simp only [Option.bind_some, if_true, scutagelaw07_GeoCells.j2]
  rw [base_out hs (.inl rfl)]; rfl
/-- the second half of the law, a class -/
theorem half_some {n : Nat} {k a s c : Int} (hs : class_Size.f k = some s) (hsc : SC s c) : scutagelaw07_GeoCells.j1 (n + 3) k a s = some true := by
  have hs0 : s ≠ 0 := by unfold SC at hsc; omega
  simp only [scutagelaw07_GeoCells.j1]
  by_cases hin : a < 0 ∨ 2047 < a
  · rw [cell_out hs (.inr hin)]; simp only [Option.bind_some]
    rw [if_neg hs0]
    have hj : ∀ b, b = true → scutagelaw07_GeoCells.j2 (n + 2) k a s 0 false b = some true := by
      rintro b rfl
      simp only [scutagelaw07_GeoCells.j2, if_true]
      rw [base_out hs (.inr hin)]; rfl
    by_cases h0 : a < 0
    · rw [if_pos h0]; exact hj _ rfl
    · rw [if_neg h0]; exact hj _ (decide_eq_true (by omega))
  · have h0 : 0 ≤ a := by omega
    have h1 : a < 2048 := by omega
    have hm0 : 0 ≤ a % s := Int.emod_nonneg _ hs0
    have hm1 : a % s < s := Int.emod_lt_of_pos _ (by unfold SC at hsc; omega)
    have hs1 : s ≤ 16 := by unfold SC at hsc; omega
    by_cases hm : a % s = 0
    · rw [cell_in hs hsc h0 h1 hm]; simp only [Option.bind_some]
      rw [if_neg hs0, if_neg (by omega), decide_eq_false (by omega)]
      simp only [scutagelaw07_GeoCells.j2]
      rw [if_neg (by decide), if_neg hs0, Int.tmod_eq_emod_of_nonneg h0, Int.tmod_eq_emod_of_nonneg h0, if_pos hm, if_pos trivial, Int.tdiv_eq_ediv_of_nonneg (by omega)]
      have : 0 ≤ a % 32 / s ∧ a % 32 / s < 100 := by
        unfold SC at hsc
        rcases hsc with ⟨rfl, _⟩ | ⟨rfl, _⟩ | ⟨rfl, _⟩ | ⟨rfl, _⟩ <;> omega
      rw [wrap_id (by omega) (by omega), if_pos rfl, base_in hs hsc h0 h1]; simp only [Option.bind_some]
      rw [hm]; simp
    · rw [cell_odd hs hsc h0 h1 hm]; simp only [Option.bind_some]
      rw [if_neg hs0, if_neg (by omega), decide_eq_false (by omega)]
      simp only [scutagelaw07_GeoCells.j2]
      rw [if_neg (by decide), if_neg hs0, Int.tmod_eq_emod_of_nonneg h0, if_neg hm, if_pos trivial, if_neg (by decide), base_in hs hsc h0 h1]; simp only [Option.bind_some]
      rw [wrap_id (by omega) (by omega)]; simp

theorem GeoCells : scutagelaw07_GeoCells.Pure := by
  intro p k i a _ _ _ _
  refine ⟨9, ?_⟩
  unfold scutagelaw07_GeoCells.f
  rw [alive_true]; simp only [Option.bind_some, if_true]
  rcases class_cases k with ⟨hs, hc, hk⟩ | ⟨s, c, hsc, hs, hc, hk⟩
  · rw [ref_none hk]; simp only [Option.bind_some]
    have hj : scutagelaw07_GeoCells.j0 9 p k i a 0 0 false true = some true := by
      simp only [scutagelaw07_GeoCells.j0, if_true]
      rw [if_neg (by decide)]; exact half_none hs
    have ha : geo_At.f p k i = some (0, false) := at_out hc (by omega)
    rw [ha]; simp only [Option.bind_some, if_true]
    by_cases h1 : p < 0
    · rw [if_pos h1]; exact hj
    by_cases h2 : p > 63
    · rw [if_neg h1, if_pos h2]; exact hj
    rw [if_neg h1, if_neg h2]; exact hj
  · rw [ref_of hk]; simp only [Option.bind_some]
    have hs0 : s ≠ 0 := by unfold SC at hsc; omega
    by_cases ho : p < 0 ∨ 63 < p ∨ i < 0 ∨ c ≤ i
    · rw [at_out hc ho]; simp only [Option.bind_some]
      have hj : ∀ b, b = true → scutagelaw07_GeoCells.j0 9 p k i a s 0 false b = some true := by
        rintro b rfl
        simp only [scutagelaw07_GeoCells.j0, if_true]
        rw [if_neg (by decide)]; exact half_some hs hsc
      by_cases h1 : p < 0
      · rw [if_pos h1]; exact hj _ rfl
      by_cases h2 : p > 63
      · rw [if_neg h1, if_pos h2]; exact hj _ rfl
      by_cases h3 : i < 0
      · rw [if_neg h1, if_neg h2, if_neg hs0, if_pos h3]; exact hj _ rfl
      rw [if_neg h1, if_neg h2, if_neg hs0, if_neg h3, refcells_of hsc hk]; simp only [Option.bind_some]
      exact hj _ (decide_eq_true (by omega))
    · rw [at_in hs hc hsc (by omega) (by omega) (by omega) (by omega)]; simp only [Option.bind_some]
      rw [if_neg (by omega), if_neg (by omega), if_neg hs0, if_neg (by omega), refcells_of hsc hk]; simp only [Option.bind_some]
      rw [decide_eq_false (by omega)]
      simp only [scutagelaw07_GeoCells.j0]
      have hb : 0 ≤ i * s ∧ i * s ≤ 32 := by
        unfold SC at hsc
        rcases hsc with ⟨rfl, rfl⟩ | ⟨rfl, rfl⟩ | ⟨rfl, rfl⟩ | ⟨rfl, rfl⟩ <;> omega
      rw [if_neg (by decide), Int.mul_comm s i, wrap_id (x := 32 * p) (by omega) (by omega), wrap_id (x := i * s) (by omega) (by omega), wrap_id (by omega) (by omega), if_pos rfl, if_pos trivial]
      exact half_some hs hsc

end Go.Proofs.Ytikoiaeoajbobaa.Pure
