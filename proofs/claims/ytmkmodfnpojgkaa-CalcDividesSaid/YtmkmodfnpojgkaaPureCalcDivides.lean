/- Proved: for all numbers and divisors the Go law CalcDivides answers true (its plain form; no condition beside the numbers being of int's kind). -/
import Derived.Test.YtmkmodfnpojgkaaPCalcDividesx1
namespace Go.Proofs.Ytmkmodfnpojgkaa.Pure
open Go.RowKit Go.Proofs.Ytmkmodfnpojgkaa.PCalcDivides Go.Proofs.YtmkmodfnpojgkaaW.PrintWords Go.Proofs.YtmkmodfnpojgkaaW.PrintLast

theorem wf_bd {x : Int} (h : (Lit.int .i64 x).wf = true) : -9223372036854775808 ≤ x ∧ x ≤ 9223372036854775807 := by
  simpa [Lit.wf, IntKind.min, IntKind.max, IntKind.bits, IntKind.signed] using h
theorem wrap_id {x : Int} (h0 : -9223372036854775808 ≤ x) (h1 : x < 9223372036854775808) : wrap64 x = x := by
  unfold wrap64; omega
theorem wrap_cases (x : Int) (h0 : -18446744073709551616 ≤ x) (h1 : x < 18446744073709551616) : ∃ c, wrap64 x = c ∧ -9223372036854775808 ≤ c ∧ c < 9223372036854775808 ∧
    (c = x ∨ c = x - 18446744073709551616 ∨ c = x + 18446744073709551616) := ⟨_, rfl, by unfold wrap64; omega⟩
/-- a number that an int holds, or false -/
def exact64 (x : Int) : Int × Bool := if -9223372036854775808 ≤ x ∧ x ≤ 9223372036854775807 then (x, true) else (0, false)
theorem exact_in {x : Int} (h : -9223372036854775808 ≤ x ∧ x ≤ 9223372036854775807) : exact64 x = (x, true) := if_pos h
theorem exact_out {x : Int} (h : ¬ (-9223372036854775808 ≤ x ∧ x ≤ 9223372036854775807)) : exact64 x = (0, false) := if_neg h
theorem alive_true : scutagelaw01_alive.f 9 = some true := by decide +kernel
theorem tdiv_facts {a b : Int} (ha : -9223372036854775808 ≤ a ∧ a ≤ 9223372036854775807) (hb : 1 ≤ b) :
    ∃ q m, Int.tdiv a b = q ∧ Int.tmod a b = m ∧ q * b + m = a ∧ -9223372036854775808 ≤ q ∧ q ≤ 9223372036854775807 ∧
      -9223372036854775808 ≤ q * b ∧ q * b ≤ 9223372036854775807 ∧ (m < 0 → -9223372036854775808 ≤ q - 1) ∧ (0 < m → q + 1 ≤ 9223372036854775807) := by
  refine ⟨_, _, rfl, rfl, ?_⟩
  have e : Int.tdiv a b * b + Int.tmod a b = a := Int.tdiv_mul_add_tmod a b
  generalize hq : Int.tdiv a b = q at e
  generalize hm : Int.tmod a b = m at e
  have hmb : -b < m ∧ m < b := by
    rw [← hm]
    exact ⟨by have := Int.lt_tmod_of_pos a (by omega : 0 < b); omega, Int.tmod_lt_of_pos a (by omega)⟩
  have sg : (0 ≤ a → 0 ≤ m ∧ 0 ≤ q) ∧ (a ≤ 0 → m ≤ 0 ∧ q ≤ 0) := by
    constructor
    · intro h
      rw [← hm, ← hq]
      exact ⟨Int.tmod_nonneg b h, Int.tdiv_nonneg h (by omega)⟩
    · intro h
      obtain ⟨c, rfl⟩ : ∃ c, a = -c := ⟨-a, by omega⟩
      rw [← hm, ← hq, Int.neg_tmod, Int.neg_tdiv]
      have h1 := Int.tmod_nonneg b (by omega : 0 ≤ c)
      have h2 := Int.tdiv_nonneg (by omega : 0 ≤ c) (by omega : 0 ≤ b)
      omega
  by_cases h0 : 0 ≤ a
  · obtain ⟨m0, q0⟩ := sg.1 h0
    have hqb : q ≤ q * b := by
      have := Int.mul_le_mul_of_nonneg_left hb q0
      omega
    refine ⟨e, by omega, by omega, by omega, by omega, fun h => by omega, fun h => ?_⟩
    have hb2 : 2 ≤ b := by omega
    have h2 := Int.mul_le_mul_of_nonneg_left hb2 q0
    omega
  · obtain ⟨m0, q0⟩ := sg.2 (by omega)
    have hqb : q * b ≤ q := by
      have := Int.mul_le_mul_of_nonpos_left q0 hb
      omega
    refine ⟨e, by omega, by omega, by omega, by omega, fun h => ?_, fun h => by omega⟩
    have hb2 : 2 ≤ b := by omega
    have h2 := Int.mul_le_mul_of_nonpos_left q0 hb2
    omega

theorem down_same {a b : Int} (ha : -9223372036854775808 ≤ a ∧ a ≤ 9223372036854775807) : ∃ r, calc_Down.f a b = some r ∧ scutageref01_Down.f a b = some r := by
  unfold calc_Down.f scutageref01_Down.f
  by_cases hb : b < 1
  · exact ⟨_, by rw [if_pos hb], by rw [if_pos hb]⟩
  obtain ⟨q, m, hq, hm, e, q0, q1, p0, p1, s0, _⟩ := tdiv_facts ha (by omega : 1 ≤ b)
  rw [hq, hm, if_neg hb, if_neg hb, if_neg (by omega : ¬ b = 0), if_neg (by omega : ¬ b = 0)]
  rw [wrap_id (x := q) q0 (by omega), wrap_id (x := q * b) p0 (by omega)]
  by_cases h : m < 0
  · rw [if_pos h, if_pos (by omega)]; exact ⟨_, rfl, rfl⟩
  · rw [if_neg h, if_neg (by omega)]; exact ⟨_, rfl, rfl⟩
theorem up_same {a b : Int} (ha : -9223372036854775808 ≤ a ∧ a ≤ 9223372036854775807) : ∃ r, calc_Up.f a b = some r ∧ scutageref01_Up.f a b = some r := by
  unfold calc_Up.f scutageref01_Up.f
  by_cases hb : b < 1
  · exact ⟨_, by rw [if_pos hb], by rw [if_pos hb]⟩
  obtain ⟨q, m, hq, hm, e, q0, q1, p0, p1, _, s1⟩ := tdiv_facts ha (by omega : 1 ≤ b)
  rw [hq, hm, if_neg hb, if_neg hb, if_neg (by omega : ¬ b = 0), if_neg (by omega : ¬ b = 0)]
  rw [wrap_id (x := q) q0 (by omega), wrap_id (x := q * b) p0 (by omega)]
  by_cases h : m > 0
  · rw [if_pos h, if_pos (by omega)]; exact ⟨_, rfl, rfl⟩
  · rw [if_neg h, if_neg (by omega)]; exact ⟨_, rfl, rfl⟩

theorem CalcDivides : scutagelaw01_CalcDivides.Pure := by
  intro a b ha _
  refine ⟨9, ?_⟩
  unfold scutagelaw01_CalcDivides.f
  rw [alive_true]; simp only [Option.bind_some, if_true]
  obtain ⟨r, h1, h2⟩ := down_same (b := b) (wf_bd ha)
  obtain ⟨s, h3, h4⟩ := up_same (b := b) (wf_bd ha)
  rw [h1, h2, h3, h4]; simp

end Go.Proofs.Ytmkmodfnpojgkaa.Pure
