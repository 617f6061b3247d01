/- Proved: for all addresses, page numbers and page counts the Go law GeoPages answers true (its plain form; no condition beside the numbers being of int's kind). -/
import Derived.Test.YtikoiaeoajbobaaPGeoPagesx2
namespace Go.Proofs.Ytikoiaeoajbobaa.Pure
open Go.RowKit Go.Proofs.Ytikoiaeoajbobaa.PGeoPages Go.Proofs.YtikoiaeoajbobaaW.PrintWords Go.Proofs.YtikoiaeoajbobaaW.PrintLast

theorem wrap_id {x : Int} (h0 : -9223372036854775808 ≤ x) (h1 : x < 9223372036854775808) : wrap64 x = x := by
  unfold wrap64; omega
theorem page_in {a : Int} (h0 : 0 ≤ a) (h1 : a < 2048) : geo_Page.f a = some (a / 32) := by
  unfold geo_Page.f
  rw [if_neg (by omega), if_neg (by omega), Int.tdiv_eq_ediv_of_nonneg h0, wrap_id (by omega) (by omega)]
theorem page_out {a : Int} (h : a < 0 ∨ 2047 < a) : geo_Page.f a = some (-1) := by
  unfold geo_Page.f
  rcases h with h | h
  · rw [if_pos h]
  · rw [if_neg (by omega), if_pos (by omega)]
theorem offset_in {a : Int} (h0 : 0 ≤ a) (h1 : a < 2048) : geo_Offset.f a = some (a % 32) := by
  unfold geo_Offset.f
  rw [page_in h0 h1]; simp only [Option.bind_some]
  rw [if_neg (by omega), Int.tmod_eq_emod_of_nonneg h0]
theorem offset_out {a : Int} (h : a < 0 ∨ 2047 < a) : geo_Offset.f a = some (-1) := by
  unfold geo_Offset.f
  rw [page_out h]; rfl
theorem ends_out {p n : Int} (h : p < 0 ∨ 63 < p ∨ n < 1 ∨ 64 - p < n) : geo_Ends.f p n = some (0, 0, false) := by
  unfold geo_Ends.f
  by_cases h1 : p < 0
  · rw [if_pos h1]
  by_cases h2 : n < 1
  · rw [if_neg h1, if_pos h2]
  by_cases h3 : p ≥ 64
  · rw [if_neg h1, if_neg h2, if_pos h3]
  rw [if_neg h1, if_neg h2, if_neg h3, wrap_id (by omega) (by omega), if_pos (by omega)]
theorem ends_in {p n : Int} (h0 : 0 ≤ p) (h1 : p ≤ 63) (h2 : 1 ≤ n) (h3 : n ≤ 64 - p) : geo_Ends.f p n = some (32 * p, 32 * (p + n) - 1, true) := by
  unfold geo_Ends.f
  rw [if_neg (by omega), if_neg (by omega), if_neg (by omega), wrap_id (x := 64 - p) (by omega) (by omega), if_neg (by omega)]
  rw [wrap_id (x := p + n) (by omega) (by omega), wrap_id (x := p * 32) (by omega) (by omega), wrap_id (x := (p + n) * 32) (by omega) (by omega), wrap_id (by omega) (by omega), Int.mul_comm p, Int.mul_comm (p + n)]
theorem alive_true : scutagelaw07_alive.f 9 = some true := by decide +kernel

theorem told {k : Nat} {a p n x y : Int} (hp : geo_Page.f a = some x) (ho : geo_Offset.f a = some y) : scutagelaw07_GeoPages.j1 (k + 2) a p n x y = some true := by
  simp only [scutagelaw07_GeoPages.j1]
  by_cases h : p < 0 ∨ 63 < p ∨ n < 1 ∨ 64 - p < n
  · rw [ends_out h]; simp only [Option.bind_some]
    have hj : ∀ b, b = true → scutagelaw07_GeoPages.j2 (k + 1) a p n x y 0 0 false b = some true := by
      rintro b rfl
      simp only [scutagelaw07_GeoPages.j2, hp, ho, Option.bind_some, if_true]; rfl
    by_cases h1 : p < 0
    · rw [if_pos h1]; exact hj _ rfl
    by_cases h2 : p > 63
    · rw [if_neg h1, if_pos h2]; exact hj _ rfl
    by_cases h3 : n < 1
    · rw [if_neg h1, if_neg h2, if_pos h3]; exact hj _ rfl
    rw [if_neg h1, if_neg h2, if_neg h3]
    exact hj _ (by rw [wrap_id (by omega) (by omega)]; exact decide_eq_true (by omega))
  · rw [ends_in (by omega) (by omega) (by omega) (by omega)]; simp only [Option.bind_some]
    rw [if_neg (by omega), if_neg (by omega), if_neg (by omega), wrap_id (x := 64 - p) (by omega) (by omega), decide_eq_false (by omega)]
    simp only [scutagelaw07_GeoPages.j2]
    rw [if_neg (by decide), hp, ho]; simp only [Option.bind_some, if_true]
    rw [wrap_id (x := 32 * p) (by omega) (by omega), wrap_id (x := p + n) (by omega) (by omega), wrap_id (x := 32 * (p + n)) (by omega) (by omega), wrap_id (by omega) (by omega)]
    simp only [if_true]

theorem GeoPages : scutagelaw07_GeoPages.Pure := by
  intro a p n _ _ _
  refine ⟨9, ?_⟩
  unfold scutagelaw07_GeoPages.f
  rw [alive_true]; simp only [Option.bind_some, if_true]
  by_cases h0 : a ≥ 0
  · rw [if_pos h0]
    by_cases h1 : a < 2048
    · rw [decide_eq_true h1]; simp only [scutagelaw07_GeoPages.j0, if_true]
      rw [Int.tdiv_eq_ediv_of_nonneg h0, wrap_id (x := a / 32) (by omega) (by omega), wrap_id (x := 32 * (a / 32)) (by omega) (by omega), wrap_id (by omega) (by omega)]
      exact told (page_in h0 h1) (by rw [offset_in h0 h1]; congr 1; omega)
    · rw [decide_eq_false h1]; simp only [scutagelaw07_GeoPages.j0]
      rw [if_neg (by decide)]
      exact told (page_out (by omega)) (offset_out (by omega))
  · rw [if_neg h0]; simp only [scutagelaw07_GeoPages.j0]
    rw [if_neg (by decide)]
    exact told (page_out (by omega)) (offset_out (by omega))

end Go.Proofs.Ytikoiaeoajbobaa.Pure
