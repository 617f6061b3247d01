/- Proved: for all two numbers the Go law CalcTells answers true (its plain form; no condition beside the numbers being of int's kind). -/
import Derived.Test.YtmkmodfnpojgkaaPCalcTellsx2
namespace Go.Proofs.Ytmkmodfnpojgkaa.Pure
open Go.RowKit Go.Proofs.Ytmkmodfnpojgkaa.PCalcTells Go.Proofs.YtmkmodfnpojgkaaW.PrintWords Go.Proofs.YtmkmodfnpojgkaaW.PrintLast

theorem wf_bd {x : Int} (h : (Lit.int .i64 x).wf = true) : -9223372036854775808 ≤ x ∧ x ≤ 9223372036854775807 := by
  simpa [Lit.wf, IntKind.min, IntKind.max, IntKind.bits, IntKind.signed] using h
theorem wrap_id {x : Int} (h0 : -9223372036854775808 ≤ x) (h1 : x < 9223372036854775808) : wrap64 x = x := by
  unfold wrap64; omega
theorem wrap_cases (x : Int) (h0 : -18446744073709551616 ≤ x) (h1 : x < 18446744073709551616) : ∃ c, wrap64 x = c ∧ -9223372036854775808 ≤ c ∧ c < 9223372036854775808 ∧
    (c = x ∨ c = x - 18446744073709551616 ∨ c = x + 18446744073709551616) := ⟨_, rfl, by unfold wrap64; omega⟩
/-- a number that an int holds, or false -/
def exact64 (x : Int) : Int × Bool := if -9223372036854775808 ≤ x ∧ x ≤ 9223372036854775807 then (x, true) else (0, false)
theorem exact_in {x : Int} (h : -9223372036854775808 ≤ x ∧ x ≤ 9223372036854775807) : exact64 x = (x, true) := if_pos h
theorem exact_out {x : Int} (h : ¬ (-9223372036854775808 ≤ x ∧ x ≤ 9223372036854775807)) : exact64 x = (0, false) := if_neg h
theorem add_val {a b : Int} (ha : -9223372036854775808 ≤ a ∧ a ≤ 9223372036854775807) (hb : -9223372036854775808 ≤ b ∧ b ≤ 9223372036854775807) :
    calc_Add.f a b = some (exact64 (a + b)) := by
  obtain ⟨c, hc, c0, c1, c2⟩ := wrap_cases (a + b) (by omega) (by omega)
  unfold calc_Add.f exact64
  rw [hc]
  simp only [beq_iff_eq, decide_eq_decide, bne_iff_ne, ne_eq]
  repeat' split
  all_goals first
    | rfl
    | (exfalso; omega)
    | (rw [show c = a + b by omega])
theorem refadd_val {a b : Int} (ha : -9223372036854775808 ≤ a ∧ a ≤ 9223372036854775807) (hb : -9223372036854775808 ≤ b ∧ b ≤ 9223372036854775807) :
    scutageref01_Add.f a b = some (exact64 (a + b)) := by
  obtain ⟨c, hc, c0, c1, c2⟩ := wrap_cases (a + b) (by omega) (by omega)
  obtain ⟨d, hd, d0, d1, d2⟩ := wrap_cases (9223372036854775807 - b) (by omega) (by omega)
  obtain ⟨e, he, e0, e1, e2⟩ := wrap_cases (-9223372036854775808 - b) (by omega) (by omega)
  unfold scutageref01_Add.f exact64
  rw [hc, hd, he]
  repeat' split
  all_goals first
    | rfl
    | (exfalso; omega)
    | (rw [show c = a + b by omega])
theorem sub_val {a b : Int} (ha : -9223372036854775808 ≤ a ∧ a ≤ 9223372036854775807) (hb : -9223372036854775808 ≤ b ∧ b ≤ 9223372036854775807) :
    calc_Sub.f a b = some (exact64 (a - b)) := by
  obtain ⟨c, hc, c0, c1, c2⟩ := wrap_cases (a - b) (by omega) (by omega)
  unfold calc_Sub.f exact64
  rw [hc]
  simp only [decide_eq_decide, bne_iff_ne, ne_eq]
  repeat' split
  all_goals first
    | rfl
    | (exfalso; omega)
    | (rw [show c = a - b by omega])
theorem refsub_val {a b : Int} (ha : -9223372036854775808 ≤ a ∧ a ≤ 9223372036854775807) (hb : -9223372036854775808 ≤ b ∧ b ≤ 9223372036854775807) :
    scutageref01_Sub.f a b = some (exact64 (a - b)) := by
  obtain ⟨c, hc, c0, c1, c2⟩ := wrap_cases (a - b) (by omega) (by omega)
  obtain ⟨d, hd, d0, d1, d2⟩ := wrap_cases (9223372036854775807 + b) (by omega) (by omega)
  obtain ⟨e, he, e0, e1, e2⟩ := wrap_cases (-9223372036854775808 + b) (by omega) (by omega)
  unfold scutageref01_Sub.f exact64
  rw [hc, hd, he]
  repeat' split
  all_goals first
    | rfl
    | (exfalso; omega)
    | (rw [show c = a - b by omega])

theorem wrap_u64 (n : Int) : IntKind.u64.wrap n = n % 18446744073709551616 := by simp [IntKind.wrap, IntKind.bits, IntKind.signed]
theorem wraps_u64 (n : Int) (h₀ : 0 ≤ n) (h₁ : n < 2 ^ 64) : IntKind.u64.wrap n = n := by rw [wrap_u64]; omega
theorem and_mask (x : Int) (h0 : 0 ≤ x) (h1 : x < 18446744073709551616) : Go.bits .and .u64 x 4294967295 = x % 4294967296 :=
  bits_mask .u64 64 (by decide) wraps_u64 32 (by decide) x h0 h1
theorem mul_bd {x y : Int} (h0 : 0 ≤ x) (h1 : x ≤ 4294967295) (h2 : 0 ≤ y) (h3 : y ≤ 4294967295) : 0 ≤ x * y ∧ x * y ≤ 18446744065119617025 := by
  constructor
  · exact Int.mul_nonneg h0 h2
  · have := Int.mul_le_mul h1 h3 h2 (by decide)
    simpa using this
theorem mul64_val {x y : Int} (hx0 : 0 ≤ x) (hx1 : x < 18446744073709551616) (hy0 : 0 ≤ y) (hy1 : y < 18446744073709551616) :
    bits_Mul64.f x y = some ((x * y) / 18446744073709551616, (x * y) % 18446744073709551616) := by
  obtain ⟨x1, hX1⟩ : ∃ z, x / 4294967296 = z := ⟨_, rfl⟩
  obtain ⟨x0, hX0⟩ : ∃ z, x % 4294967296 = z := ⟨_, rfl⟩
  obtain ⟨y1, hY1⟩ : ∃ z, y / 4294967296 = z := ⟨_, rfl⟩
  obtain ⟨y0, hY0⟩ : ∃ z, y % 4294967296 = z := ⟨_, rfl⟩
  have ex : x = x1 * 4294967296 + x0 := by omega
  have ey : y = y1 * 4294967296 + y0 := by omega
  have bx1 : 0 ≤ x1 ∧ x1 ≤ 4294967295 := by omega
  have bx0 : 0 ≤ x0 ∧ x0 ≤ 4294967295 := by omega
  have by1 : 0 ≤ y1 ∧ y1 ≤ 4294967295 := by omega
  have by0 : 0 ≤ y0 ∧ y0 ≤ 4294967295 := by omega
  have e : x * y = (x1 * y1) * 18446744073709551616 + (x1 * y0 + x0 * y1) * 4294967296 + x0 * y0 := by
    rw [ex, ey]; grind
  unfold bits_Mul64.f
  rw [and_mask x hx0 hx1, and_mask y hy0 hy1, hX1, hX0, hY1, hY0]
  have hA := mul_bd bx0.1 bx0.2 by0.1 by0.2
  have hB := mul_bd bx1.1 bx1.2 by0.1 by0.2
  have hC := mul_bd bx0.1 bx0.2 by1.1 by1.2
  have hD := mul_bd bx1.1 bx1.2 by1.1 by1.2
  rw [e]
  generalize x0 * y0 = A at *
  generalize x1 * y0 = B at *
  generalize x0 * y1 = C at *
  generalize x1 * y1 = G at *
  have w1 : IntKind.u64.wrap A = A := by rw [wrap_u64]; omega
  have w2 : IntKind.u64.wrap B = B := by rw [wrap_u64]; omega
  have w3 : IntKind.u64.wrap C = C := by rw [wrap_u64]; omega
  have w4 : IntKind.u64.wrap G = G := by rw [wrap_u64]; omega
  rw [w1, w2, w3, w4]
  have w5 : IntKind.u64.wrap (B + A / 4294967296) = B + A / 4294967296 := by rw [wrap_u64]; omega
  rw [w5, and_mask _ (by omega) (by omega)]
  have w6 : IntKind.u64.wrap ((B + A / 4294967296) % 4294967296 + C) = (B + A / 4294967296) % 4294967296 + C := by rw [wrap_u64]; omega
  rw [w6]
  have tot : G * 18446744073709551616 + (B + C) * 4294967296 + A =
      (G + (B + A / 4294967296) / 4294967296 + ((B + A / 4294967296) % 4294967296 + C) / 4294967296) * 18446744073709551616 +
      (((B + A / 4294967296) % 4294967296 + C) % 4294967296) * 4294967296 + A % 4294967296 := by omega
  rw [tot]
  clear tot e w5 w6
  have q2 : 0 ≤ (B + A / 4294967296) / 4294967296 ∧ (B + A / 4294967296) / 4294967296 ≤ 4294967295 := by omega
  have q3 : 0 ≤ ((B + A / 4294967296) % 4294967296 + C) / 4294967296 ∧ ((B + A / 4294967296) % 4294967296 + C) / 4294967296 ≤ 4294967295 := by omega
  have r3 : 0 ≤ ((B + A / 4294967296) % 4294967296 + C) % 4294967296 ∧ ((B + A / 4294967296) % 4294967296 + C) % 4294967296 ≤ 4294967295 := by omega
  have r1 : 0 ≤ A % 4294967296 ∧ A % 4294967296 ≤ 4294967295 := by omega
  generalize (B + A / 4294967296) / 4294967296 = Q2 at *
  generalize ((B + A / 4294967296) % 4294967296 + C) / 4294967296 = Q3 at *
  generalize ((B + A / 4294967296) % 4294967296 + C) % 4294967296 = R3 at *
  generalize A % 4294967296 = R1 at *
  have w7 : IntKind.u64.wrap (G + Q2) = G + Q2 := by rw [wrap_u64]; omega
  have w8 : IntKind.u64.wrap (G + Q2 + Q3) = G + Q2 + Q3 := by rw [wrap_u64]; omega
  rw [w7, w8, wrap_u64]
  simp only [Option.some.injEq, Prod.mk.injEq, and_true]
  omega

theorem size_val {a : Int} (ha : -9223372036854775808 ≤ a ∧ a ≤ 9223372036854775807) : calc_size.f a = some (if a < 0 then -a else a) := by
  unfold calc_size.f
  by_cases h : a < 0
  · rw [if_pos h, if_pos h, wrap_u64, wrap_u64]; congr 1; omega
  · rw [if_neg h, if_neg h, wrap_u64]; congr 1; omega

theorem mul_val {a b : Int} (ha : -9223372036854775808 ≤ a ∧ a ≤ 9223372036854775807) (hb : -9223372036854775808 ≤ b ∧ b ≤ 9223372036854775807) :
    calc_Mul.f a b = some (exact64 (a * b)) := by
  unfold calc_Mul.f
  rw [size_val ha, size_val hb]; simp only [Option.bind_some]
  obtain ⟨s, hs⟩ : ∃ s, (if a < 0 then -a else a) = s := ⟨_, rfl⟩
  obtain ⟨t, ht⟩ : ∃ t, (if b < 0 then -b else b) = t := ⟨_, rfl⟩
  rw [hs, ht]
  have s0 : 0 ≤ s ∧ s < 18446744073709551616 := by split at hs <;> omega
  have t0 : 0 ≤ t ∧ t < 18446744073709551616 := by split at ht <;> omega
  rw [mul64_val s0.1 s0.2 t0.1 t0.2]; simp only [Option.bind_some]
  have p0 : 0 ≤ s * t := Int.mul_nonneg s0.1 t0.1
  by_cases hn : ((decide (a < 0)) != (decide (b < 0))) = true
  · have hab : a * b = -(s * t) := by
      by_cases h1 : a < 0
      · have h2 : ¬ b < 0 := by intro h2; simp [h1, h2] at hn
        rw [if_pos h1] at hs; rw [if_neg h2] at ht
        rw [← hs, ← ht, Int.neg_mul, Int.neg_neg]
      · have h2 : b < 0 := by
          apply Classical.byContradiction; intro h2; simp [h1, h2] at hn
        rw [if_neg h1] at hs; rw [if_pos h2] at ht
        rw [← hs, ← ht, Int.mul_neg, Int.neg_neg]
    rw [hab, if_pos hn]
    generalize s * t = P at *
    unfold exact64
    by_cases h1 : P / 18446744073709551616 > 0
    · rw [if_pos h1, if_neg (by omega)]
    · rw [if_neg h1]
      by_cases h2 : P % 18446744073709551616 > 9223372036854775808
      · rw [if_pos h2, if_neg (by omega)]
      · rw [if_neg h2, if_pos (by omega), wrap_u64]
        have e : wrap64 (-(P % 18446744073709551616) % 18446744073709551616) = -P := by unfold wrap64; omega
        rw [e]
  · have hab : a * b = s * t := by
      by_cases h1 : a < 0
      · have h2 : b < 0 := by
          apply Classical.byContradiction; intro h2; simp [h1, h2] at hn
        rw [if_pos h1] at hs; rw [if_pos h2] at ht
        rw [← hs, ← ht, Int.neg_mul_neg]
      · have h2 : ¬ b < 0 := by intro h2; simp [h1, h2] at hn
        rw [if_neg h1] at hs; rw [if_neg h2] at ht
        rw [← hs, ← ht]
    rw [hab, if_neg hn]
    generalize s * t = P at *
    unfold exact64
    by_cases h1 : P / 18446744073709551616 > 0
    · rw [if_pos h1, if_neg (by omega)]
    · rw [if_neg h1]
      by_cases h2 : P % 18446744073709551616 > 9223372036854775807
      · rw [if_pos h2, if_neg (by omega)]
      · rw [if_neg h2, if_pos (by omega)]
        have e : wrap64 (P % 18446744073709551616) = P := by unfold wrap64; omega
        rw [e]

theorem refmul_val {k : Nat} {a b : Int} (ha : -9223372036854775808 ≤ a ∧ a ≤ 9223372036854775807) (hb : -9223372036854775808 ≤ b ∧ b ≤ 9223372036854775807) :
    scutageref01_Mul.f (k + 1) a b = some (exact64 (a * b)) := by
  unfold scutageref01_Mul.f
  by_cases a0 : a = 0
  · rw [if_pos a0, a0, Int.zero_mul]; rfl
  rw [if_neg a0]
  by_cases b0 : b = 0
  · rw [b0, Int.mul_zero]; rfl
  have eb : (b == 0) = false := beq_eq_false_iff_ne.mpr b0
  rw [eb]
  simp only [scutageref01_Mul.j0]
  rw [if_neg (by decide)]
  by_cases a1 : a = -1
  · rw [if_pos a1, refsub_val (by decide) hb]; simp only [Option.bind_some]
    rw [a1, show (0 : Int) - b = -1 * b by omega]
  rw [if_neg a1]
  by_cases b1 : b = -1
  · rw [if_pos b1, refsub_val (by decide) ha]; simp only [Option.bind_some]
    rw [b1, show (0 : Int) - a = a * -1 by omega]
  rw [if_neg b1, if_neg b0]
  obtain ⟨j, hj⟩ : ∃ j, wrap64 (a * b) = a * b + 18446744073709551616 * j := ⟨-((a * b + 9223372036854775808) / 18446744073709551616), by unfold wrap64; omega⟩
  have hcb : -9223372036854775808 ≤ wrap64 (a * b) ∧ wrap64 (a * b) ≤ 9223372036854775807 := by unfold wrap64; omega
  generalize hc : wrap64 (a * b) = c at *
  have e : Int.tdiv c b * b + Int.tmod c b = c := Int.tdiv_mul_add_tmod c b
  have hm : -9223372036854775808 ≤ Int.tmod c b ∧ Int.tmod c b ≤ 9223372036854775808 := by
    by_cases h : 0 < b
    · have h1 := Int.lt_tmod_of_pos c h
      have h2 := Int.tmod_lt_of_pos c h
      omega
    · have h0 : 0 < -b := by omega
      have h1 := Int.lt_tmod_of_pos c h0
      have h2 := Int.tmod_lt_of_pos c h0
      rw [Int.tmod_neg] at h1 h2
      omega
  have hq : -9223372036854775808 ≤ Int.tdiv c b ∧ Int.tdiv c b ≤ 9223372036854775807 := by
    have hn : (Int.tdiv c b).natAbs ≤ c.natAbs := by
      rw [Int.natAbs_tdiv]; exact Nat.div_le_self _ _
    have hcn : c = -9223372036854775808 → Int.tdiv c b ≤ 9223372036854775807 := by
      intro hcc
      by_cases h : 0 < b
      · have : Int.tdiv c b ≤ 0 := by
          rw [hcc, Int.neg_tdiv]
          have := Int.tdiv_nonneg (a := 9223372036854775808) (b := b) (by decide) (by omega)
          omega
        omega
      · have hb2 : b ≤ -2 := by omega
        have h2 : (Int.tdiv c b).natAbs ≤ 9223372036854775808 / 2 := by
          rw [Int.natAbs_tdiv, hcc]
          exact Nat.div_le_div (by decide) (by omega) (by omega)
        omega
    omega
  rw [wrap_id hq.1 (by omega)]
  by_cases hr : -9223372036854775808 ≤ a * b ∧ a * b ≤ 9223372036854775807
  · have hcc : c = a * b := by omega
    have : Int.tdiv c b = a := by rw [hcc]; exact Int.mul_tdiv_cancel a b0
    rw [if_pos this, exact_in hr, hcc]
  · rw [exact_out hr, if_neg]
    intro h
    rw [h] at e
    omega

theorem alive_true : scutagelaw01_alive.f 9 = some true := by decide +kernel
theorem CalcTells : scutagelaw01_CalcTells.Pure := by
  intro a b ha hb
  refine ⟨9, ?_⟩
  replace ha := wf_bd ha
  replace hb := wf_bd hb
  unfold scutagelaw01_CalcTells.f
  rw [alive_true]; simp only [Option.bind_some, if_true]
  rw [add_val ha hb, refadd_val ha hb, sub_val ha hb, refsub_val ha hb, mul_val ha hb, refmul_val ha hb]; simp

end Go.Proofs.Ytmkmodfnpojgkaa.Pure
