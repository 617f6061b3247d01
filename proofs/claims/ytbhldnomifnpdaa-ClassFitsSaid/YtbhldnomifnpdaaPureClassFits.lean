/- Proved: for every field count and every class number the Go law ClassFits answers true (its plain form; no condition beside the numbers being of int's kind). -/
import Derived.Test.YtbhldnomifnpdaaPClassFitsx1
namespace Go.Proofs.Ytbhldnomifnpdaa.Pure
open Go.RowKit Go.Proofs.Ytbhldnomifnpdaa.PClassFits Go.Proofs.YtbhldnomifnpdaaW.PrintWords Go.Proofs.YtbhldnomifnpdaaW.PrintLast

theorem fits_small : ∀ n : Fin 130, ∀ j : Fin 6, scutagelaw06_ClassFits.f 20 ((n.val : Int) - 1) (j.val : Int) = some true := by
  decide +kernel

theorem size_low {a : Int} (h : a < 1) : class_Size.f a = class_Size.f 0 := by
  unfold class_Size.f; rw [if_pos h, if_pos (by decide)]
theorem size_high {a : Int} (h : 5 ≤ a) : class_Size.f a = class_Size.f 5 := by
  unfold class_Size.f; rw [if_neg (by omega), if_pos h, if_neg (by decide), if_pos (by decide)]
theorem cells_low {a : Int} (h : a < 1) : class_Cells.f a = class_Cells.f 0 := by
  unfold class_Cells.f; rw [size_low h]
theorem cells_high {a : Int} (h : 5 ≤ a) : class_Cells.f a = class_Cells.f 5 := by
  unfold class_Cells.f; rw [size_high h]

theorem j1_low (k : Nat) {a : Int} (h : a < 1) (b : Bool) : scutagelaw06_ClassFits.j1 k a b = scutagelaw06_ClassFits.j1 k 0 b := by
  cases k with
  | zero => rfl
  | succ k => simp only [scutagelaw06_ClassFits.j1]; rw [size_low h, cells_low h, if_pos h]; rfl
theorem j1_high (k : Nat) {a : Int} (h : 5 ≤ a) (b : Bool) : scutagelaw06_ClassFits.j1 k a b = scutagelaw06_ClassFits.j1 k 5 b := by
  cases k with
  | zero => rfl
  | succ k =>
    have e : decide (a > 4) = decide ((5 : Int) > 4) := by rw [decide_eq_decide]; omega
    simp only [scutagelaw06_ClassFits.j1]; rw [size_high h, cells_high h, if_neg (by omega : ¬ a < 1), e]; rfl

theorem law_low {a0 a1 : Int} (h : a1 < 1) : scutagelaw06_ClassFits.f 20 a0 a1 = scutagelaw06_ClassFits.f 20 a0 0 := by
  simp only [scutagelaw06_ClassFits.f, scutagelaw06_ClassFits.j0, j1_low _ h]
theorem law_high {a0 a1 : Int} (h : 5 ≤ a1) : scutagelaw06_ClassFits.f 20 a0 a1 = scutagelaw06_ClassFits.f 20 a0 5 := by
  simp only [scutagelaw06_ClassFits.f, scutagelaw06_ClassFits.j0, j1_high _ h]

theorem of_neg {a : Int} (h : a < 0) : class_Of.f 20 a = some 0 := by
  unfold class_Of.f; rw [if_pos h]; rfl
theorem of_great {a : Int} (h : 127 < a) : class_Of.f 20 a = some 0 := by
  unfold class_Of.f; rw [if_neg (by omega), decide_eq_true h]; rfl
theorem waste_of {k : Nat} {a : Int} (h : class_Of.f k a = some 0) : class_Waste.f k a = some 0 := by
  unfold class_Waste.f; rw [h]; rfl

theorem law_neg {a0 a1 : Int} (h : a0 < 0) : scutagelaw06_ClassFits.f 20 a0 a1 = some true := by
  have ha : scutagelaw06_alive.f 20 = some true := by decide +kernel
  have hw : class_Waste.f 19 a0 = some 0 := waste_of (by unfold class_Of.f; rw [if_pos h]; rfl)
  unfold scutagelaw06_ClassFits.f
  rw [ha]; simp only [Option.bind_some, if_true]
  rw [of_neg h]; simp only [Option.bind_some]
  rw [if_pos h]; simp only [scutagelaw06_ClassFits.j0, if_true, hw]; rfl
theorem law_great {a0 a1 : Int} (h : 127 < a0) : scutagelaw06_ClassFits.f 20 a0 a1 = some true := by
  have ha : scutagelaw06_alive.f 20 = some true := by decide +kernel
  have hw : class_Waste.f 19 a0 = some 0 := waste_of (by unfold class_Of.f; rw [if_neg (by omega), decide_eq_true h]; rfl)
  unfold scutagelaw06_ClassFits.f
  rw [ha]; simp only [Option.bind_some, if_true]
  rw [of_great h]; simp only [Option.bind_some]
  rw [if_neg (by omega), decide_eq_true h]; simp only [scutagelaw06_ClassFits.j0, if_true, hw]; rfl

theorem law_mid {a0 a1 : Int} (h0 : 0 ≤ a0) (h1 : a0 ≤ 127) (h2 : 0 ≤ a1) (h3 : a1 ≤ 5) : scutagelaw06_ClassFits.f 20 a0 a1 = some true := by
  have h := fits_small ⟨(a0 + 1).toNat, by omega⟩ ⟨a1.toNat, by omega⟩
  have e0 : (((a0 + 1).toNat : Nat) : Int) - 1 = a0 := by omega
  have e1 : ((a1.toNat : Nat) : Int) = a1 := by omega
  simpa only [e0, e1] using h

theorem ClassFits : scutagelaw06_ClassFits.Pure := by
  intro a0 a1 _ _
  refine ⟨20, ?_⟩
  by_cases hn : a0 < 0
  · exact law_neg hn
  by_cases hg : 127 < a0
  · exact law_great hg
  by_cases hl : a1 < 1
  · rw [law_low hl]; exact law_mid (by omega) (by omega) (by decide) (by decide)
  by_cases hh : 5 ≤ a1
  · rw [law_high hh]; exact law_mid (by omega) (by omega) (by decide) (by decide)
  exact law_mid (by omega) (by omega) (by omega) (by omega)

end Go.Proofs.Ytbhldnomifnpdaa.Pure
