/- Proved: for all page numbers, class numbers, cell numbers and addresses the Go law GeoBack answers true (its plain form; no condition beside the numbers being of int's kind). -/
import Derived.Test.YtikoiaeoajbobaaPGeoBackx2
namespace Go.Proofs.Ytikoiaeoajbobaa.Pure
open Go.RowKit Go.Proofs.Ytikoiaeoajbobaa.PGeoBack Go.Proofs.YtikoiaeoajbobaaW.PrintWords Go.Proofs.YtikoiaeoajbobaaW.PrintLast

theorem wrap_id {x : Int} (h0 : -9223372036854775808 ≤ x) (h1 : x < 9223372036854775808) : wrap64 x = x := by
  unfold wrap64; omega

/-- what a class's size and cells are -/
def SC (s c : Int) : Prop := (s = 2 ∧ c = 16) ∨ (s = 4 ∧ c = 8) ∨ (s = 8 ∧ c = 4) ∨ (s = 16 ∧ c = 2)

theorem class_cases (k : Int) : (class_Size.f k = some 0 ∧ class_Cells.f k = some 0 ∧ (k < 1 ∨ 4 < k)) ∨
    ∃ s c, SC s c ∧ class_Size.f k = some s ∧ class_Cells.f k = some c ∧ ((k = 1 ∧ s = 2) ∨ (k = 2 ∧ s = 4) ∨ (k = 3 ∧ s = 8) ∨ (k = 4 ∧ s = 16)) := by
  by_cases h1 : k < 1
  · have e : class_Size.f k = some 0 := by unfold class_Size.f; rw [if_pos h1]
    exact .inl ⟨e, by unfold class_Cells.f; rw [e]; rfl, .inl h1⟩
  by_cases h5 : 5 ≤ k
  · have e : class_Size.f k = some 0 := by unfold class_Size.f; rw [if_neg h1, if_pos h5]
    exact .inl ⟨e, by unfold class_Cells.f; rw [e]; rfl, .inr (by omega)⟩
  have : k = 1 ∨ k = 2 ∨ k = 3 ∨ k = 4 := by omega
  rcases this with rfl | rfl | rfl | rfl
  · exact .inr ⟨2, 16, .inl ⟨rfl, rfl⟩, by decide +kernel, by decide +kernel, by omega⟩
  · exact .inr ⟨4, 8, .inr (.inl ⟨rfl, rfl⟩), by decide +kernel, by decide +kernel, by omega⟩
  · exact .inr ⟨8, 4, .inr (.inr (.inl ⟨rfl, rfl⟩)), by decide +kernel, by decide +kernel, by omega⟩
  · exact .inr ⟨16, 2, .inr (.inr (.inr ⟨rfl, rfl⟩)), by decide +kernel, by decide +kernel, by omega⟩

theorem page_in {a : Int} (h0 : 0 ≤ a) (h1 : a < 2048) : geo_Page.f a = some (a / 32) := by
  unfold geo_Page.f
  rw [if_neg (by omega), if_neg (by omega), Int.tdiv_eq_ediv_of_nonneg h0, wrap_id (by omega) (by omega)]
theorem page_out {a : Int} (h : a < 0 ∨ 2047 < a) : geo_Page.f a = some (-1) := by
  unfold geo_Page.f
  rcases h with h | h
  · rw [if_pos h]
  · rw [if_neg (by omega), if_pos (by omega)]
theorem offset_in {a : Int} (h0 : 0 ≤ a) (h1 : a < 2048) : geo_Offset.f a = some (a % 32) := by
  unfold geo_Offset.f
  rw [page_in h0 h1]; simp only [Option.bind_some]
  rw [if_neg (by omega), Int.tmod_eq_emod_of_nonneg h0]
theorem offset_out {a : Int} (h : a < 0 ∨ 2047 < a) : geo_Offset.f a = some (-1) := by
  unfold geo_Offset.f
  rw [page_out h]; rfl
theorem base_in {k a s c : Int} (hs : class_Size.f k = some s) (hsc : SC s c) (h0 : 0 ≤ a) (h1 : a < 2048) : geo_Base.f k a = some (a - a % s) := by
  unfold geo_Base.f
  rw [hs, page_in h0 h1]; simp only [Option.bind_some]
  have hs0 : s ≠ 0 := by unfold SC at hsc; omega
  rw [if_neg hs0, if_neg (by omega), if_neg hs0, Int.tmod_eq_emod_of_nonneg h0]
  have : 0 ≤ a % s := Int.emod_nonneg _ hs0
  have : a % s < s := Int.emod_lt_of_pos _ (by unfold SC at hsc; omega)
  rw [wrap_id (by unfold SC at hsc; omega) (by omega)]
theorem base_out {k a s : Int} (hs : class_Size.f k = some s) (h : s = 0 ∨ a < 0 ∨ 2047 < a) : geo_Base.f k a = some (-1) := by
  unfold geo_Base.f
  rw [hs]; simp only [Option.bind_some]
  by_cases hs0 : s = 0
  · rw [if_pos hs0]
  · rw [if_neg hs0, page_out (by omega)]; rfl
theorem cell_out {n : Nat} {k a s : Int} (hs : class_Size.f k = some s) (h : s = 0 ∨ a < 0 ∨ 2047 < a) : geo_Cell.f (n + 1) k a = some (0, false) := by
  unfold geo_Cell.f
  rw [base_out hs h]; rfl
theorem cell_odd {n : Nat} {k a s c : Int} (hs : class_Size.f k = some s) (hsc : SC s c) (h0 : 0 ≤ a) (h1 : a < 2048) (hm : a % s ≠ 0) : geo_Cell.f (n + 1) k a = some (0, false) := by
  unfold geo_Cell.f
  rw [base_in hs hsc h0 h1]; simp only [Option.bind_some]
  have hs0 : s ≠ 0 := by unfold SC at hsc; omega
  have e : (a - a % s != a) = true := by rw [bne_iff_ne]; omega
  by_cases hb : a - a % s < 0
  · rw [if_pos hb]; rfl
  · rw [if_neg hb, e]; rfl
theorem cell_in {n : Nat} {k a s c : Int} (hs : class_Size.f k = some s) (hsc : SC s c) (h0 : 0 ≤ a) (h1 : a < 2048) (hm : a % s = 0) : geo_Cell.f (n + 1) k a = some (a % 32 / s, true) := by
  unfold geo_Cell.f
  rw [base_in hs hsc h0 h1]; simp only [Option.bind_some]
  have hs0 : s ≠ 0 := by unfold SC at hsc; omega
  have e : (a - a % s != a) = false := by rw [bne_eq_false_iff_eq]; omega
  rw [if_neg (by omega), e]
  simp only [geo_Cell.j0]
  rw [if_neg (by decide), offset_in h0 h1, hs]; simp only [Option.bind_some]
  rw [if_neg hs0, Int.tdiv_eq_ediv_of_nonneg (by omega)]
  have : 0 ≤ a % 32 / s ∧ a % 32 / s < 100 := by
    unfold SC at hsc
    rcases hsc with ⟨rfl, _⟩ | ⟨rfl, _⟩ | ⟨rfl, _⟩ | ⟨rfl, _⟩ <;> omega
  rw [wrap_id (by omega) (by omega)]
theorem at_out {p k i c : Int} (hc : class_Cells.f k = some c) (h : p < 0 ∨ 63 < p ∨ i < 0 ∨ c ≤ i) : geo_At.f p k i = some (0, false) := by
  unfold geo_At.f
  by_cases h1 : p < 0
  · rw [if_pos h1]
  by_cases h2 : p ≥ 64
  · rw [if_neg h1, if_pos h2]
  by_cases h3 : i < 0
  · rw [if_neg h1, if_neg h2, if_pos h3]
  rw [if_neg h1, if_neg h2, if_neg h3, hc]; simp only [Option.bind_some]
  rw [if_pos (by omega)]
theorem at_in {p k i s c : Int} (hs : class_Size.f k = some s) (hc : class_Cells.f k = some c) (hsc : SC s c) (h0 : 0 ≤ p) (h1 : p ≤ 63) (h2 : 0 ≤ i) (h3 : i < c) :
    geo_At.f p k i = some (32 * p + i * s, true) := by
  unfold geo_At.f
  rw [if_neg (by omega), if_neg (by omega), if_neg (by omega), hc]; simp only [Option.bind_some]
  rw [if_neg (by omega), hs]; simp only [Option.bind_some]
  have : 0 ≤ i * s ∧ i * s ≤ 32 := by
    unfold SC at hsc
    rcases hsc with ⟨rfl, rfl⟩ | ⟨rfl, rfl⟩ | ⟨rfl, rfl⟩ | ⟨rfl, rfl⟩ <;> omega
  rw [wrap_id (x := p * 32) (by omega) (by omega), wrap_id (x := i * s) (by omega) (by omega), wrap_id (by omega) (by omega), Int.mul_comm p 32]
theorem ref_of {k s : Int} (h : (k = 1 ∧ s = 2) ∨ (k = 2 ∧ s = 4) ∨ (k = 3 ∧ s = 8) ∨ (k = 4 ∧ s = 16)) : scutageref06_Size.f k = some s := by
  rcases h with ⟨rfl, rfl⟩ | ⟨rfl, rfl⟩ | ⟨rfl, rfl⟩ | ⟨rfl, rfl⟩ <;> rfl
theorem alive_true : scutagelaw07_alive.f 9 = some true := by decide +kernel

/-- the second half, as one function of the cell's answer -/
theorem back_none {k a : Int} (hs : class_Size.f k = some 0) (n : Nat) :
    ((geo_Cell.f (n + 1) k a).bind fun b1 => ((geo_Page.f a).bind fun t => ((geo_At.f t k b1.1).bind fun b2 => (if b1.2 = true then (if b2.2 = true then (some (b2.1 == a)) else (some false)) else (some true))))) = some true := by
  rw [cell_out hs (.inl rfl)]; simp only [Option.bind_some]
  have hc : class_Cells.f k = some 0 := by unfold class_Cells.f; rw [hs]; rfl
  have hp : ∃ t, geo_Page.f a = some t := by
    by_cases h : a < 0 ∨ 2047 < a
    · exact ⟨_, page_out h⟩
    · exact ⟨_, page_in (by omega) (by omega)⟩
  obtain ⟨t, ht⟩ := hp
  rw [ht]; simp only [Option.bind_some]
  have : geo_At.f t k 0 = some (0, false) := at_out hc (by omega)
  rw [this]; rfl
theorem back_some {k a s c : Int} (hs : class_Size.f k = some s) (hc : class_Cells.f k = some c) (hsc : SC s c) (n : Nat) :
    ((geo_Cell.f (n + 1) k a).bind fun b1 => ((geo_Page.f a).bind fun t => ((geo_At.f t k b1.1).bind fun b2 => (if b1.2 = true then (if b2.2 = true then (some (b2.1 == a)) else (some false)) else (some true))))) = some true := by
  have hs0 : s ≠ 0 := by unfold SC at hsc; omega
  by_cases hin : a < 0 ∨ 2047 < a
  · rw [cell_out hs (.inr hin), page_out hin]; simp only [Option.bind_some]
    rw [at_out hc (.inl (by decide))]; rfl
  · have h0 : 0 ≤ a := by omega
    have h1 : a < 2048 := by omega
    rw [page_in h0 h1]
    by_cases hm : a % s = 0
    · rw [cell_in hs hsc h0 h1 hm]; simp only [Option.bind_some]
      have hb : 0 ≤ a % 32 / s ∧ a % 32 / s < c ∧ 32 * (a / 32) + a % 32 / s * s = a := by
        unfold SC at hsc
        rcases hsc with ⟨rfl, rfl⟩ | ⟨rfl, rfl⟩ | ⟨rfl, rfl⟩ | ⟨rfl, rfl⟩ <;> omega
      rw [at_in hs hc hsc (by omega) (by omega) hb.1 hb.2.1, hb.2.2]; simp
    · rw [cell_odd hs hsc h0 h1 hm]; simp only [Option.bind_some]
      have : ∃ z, geo_At.f (a / 32) k 0 = some z := ⟨_, at_in hs hc hsc (by omega) (by omega) (by decide) (by unfold SC at hsc; omega)⟩
      obtain ⟨z, hz⟩ := this
      rw [hz]; rfl

theorem j1_true {k a : Int} (n : Nat) : scutagelaw07_GeoBack.j1 (n + 2) k a false = some true := by
  simp only [scutagelaw07_GeoBack.j1]
  rw [if_neg (by decide)]
  rcases class_cases k with ⟨hs, _, _⟩ | ⟨s, c, hsc, hs, hc, _⟩
  · exact back_none hs n
  · exact back_some hs hc hsc n

theorem GeoBack : scutagelaw07_GeoBack.Pure := by
  intro p k i j a _ _ _ _ _
  refine ⟨9, ?_⟩
  unfold scutagelaw07_GeoBack.f
  rw [alive_true]; simp only [Option.bind_some, if_true]
  rcases class_cases k with ⟨hs, hc, hk⟩ | ⟨s, c, hsc, hs, hc, hk⟩
  · have ha : geo_At.f p k i = some (0, false) := at_out hc (by omega)
    rw [ha]; simp only [Option.bind_some]
    rw [if_neg (by decide)]
    exact back_none hs 8
  · by_cases ho : p < 0 ∨ 63 < p ∨ i < 0 ∨ c ≤ i
    · rw [at_out hc ho]; simp only [Option.bind_some]
      rw [if_neg (by decide)]
      exact back_some hs hc hsc 8
    · rw [at_in hs hc hsc (by omega) (by omega) (by omega) (by omega)]; simp only [Option.bind_some]
      have hb : 0 ≤ i * s ∧ i * s < 32 ∧ (32 * p + i * s) % s = 0 ∧ (32 * p + i * s) % 32 / s = i ∧ (32 * p + i * s) / 32 = p := by
        unfold SC at hsc
        rcases hsc with ⟨rfl, rfl⟩ | ⟨rfl, rfl⟩ | ⟨rfl, rfl⟩ | ⟨rfl, rfl⟩ <;> omega
      rw [if_pos trivial, cell_in hs hsc (by omega) (by omega) hb.2.2.1]; simp only [Option.bind_some]
      rw [if_pos trivial, if_pos hb.2.2.2.1, page_in (by omega) (by omega)]; simp only [Option.bind_some]
      have e : ((32 * p + i * s) / 32 != p) = false := by rw [bne_eq_false_iff_eq]; exact hb.2.2.2.2
      rw [e]
      simp only [scutagelaw07_GeoBack.j0]
      rw [if_neg (by decide)]
      by_cases hj : j < 0 ∨ c ≤ j
      · rw [at_out hc (by omega)]; simp only [Option.bind_some]
        rw [if_neg (by decide)]; exact j1_true _
      · rw [at_in hs hc hsc (by omega) (by omega) (by omega) (by omega)]; simp only [Option.bind_some]
        rw [if_pos trivial]
        by_cases hl : i < j
        · rw [if_pos hl, ref_of hk]; simp only [Option.bind_some]
          have hd : i * s + s ≤ j * s ∧ j * s < 32 ∧ s ≤ 16 := by
            unfold SC at hsc
            rcases hsc with ⟨rfl, rfl⟩ | ⟨rfl, rfl⟩ | ⟨rfl, rfl⟩ | ⟨rfl, rfl⟩ <;> omega
          rw [wrap_id (by omega) (by omega), decide_eq_false (by omega)]
          exact j1_true _
        · rw [if_neg hl]; exact j1_true _

end Go.Proofs.Ytikoiaeoajbobaa.Pure
