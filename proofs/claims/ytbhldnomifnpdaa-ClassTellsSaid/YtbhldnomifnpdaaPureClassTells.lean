/- Proved: for every field count and every class number the Go law ClassTells answers true (its plain form; no condition beside the numbers being of int's kind). -/
import Derived.Test.YtbhldnomifnpdaaPClassTellsx2
namespace Go.Proofs.Ytbhldnomifnpdaa.Pure
open Go.RowKit Go.Proofs.Ytbhldnomifnpdaa.PClassTells Go.Proofs.YtbhldnomifnpdaaW.PrintWords Go.Proofs.YtbhldnomifnpdaaW.PrintLast

theorem tells_small : ∀ n : Fin 130, ∀ j : Fin 6, scutagelaw06_ClassTells.f 20 ((n.val : Int) - 1) (j.val : Int) = some true := by
  decide +kernel

theorem size_low {a : Int} (h : a < 1) : class_Size.f a = class_Size.f 0 := by
  unfold class_Size.f; rw [if_pos h, if_pos (by decide)]
theorem size_high {a : Int} (h : 5 ≤ a) : class_Size.f a = class_Size.f 5 := by
  unfold class_Size.f; rw [if_neg (by omega), if_pos h, if_neg (by decide), if_pos (by decide)]
theorem ref_low {a : Int} (h : a < 1) : scutageref06_Size.f a = scutageref06_Size.f 0 := by
  unfold scutageref06_Size.f; rw [if_neg (by omega), if_neg (by omega), if_neg (by omega), if_neg (by omega)]; rfl
theorem ref_high {a : Int} (h : 5 ≤ a) : scutageref06_Size.f a = scutageref06_Size.f 5 := by
  unfold scutageref06_Size.f; rw [if_neg (by omega), if_neg (by omega), if_neg (by omega), if_neg (by omega)]; rfl
theorem law_low {a0 a1 : Int} (h : a1 < 1) : scutagelaw06_ClassTells.f 20 a0 a1 = scutagelaw06_ClassTells.f 20 a0 0 := by
  simp only [scutagelaw06_ClassTells.f, class_Cells.f, scutageref06_Cells.f, size_low h, ref_low h]
theorem law_high {a0 a1 : Int} (h : 5 ≤ a1) : scutagelaw06_ClassTells.f 20 a0 a1 = scutagelaw06_ClassTells.f 20 a0 5 := by
  simp only [scutagelaw06_ClassTells.f, class_Cells.f, scutageref06_Cells.f, size_high h, ref_high h]

theorem law_neg {a0 : Int} (a1 : Int) (h : a0 < 0) : scutagelaw06_ClassTells.f 20 a0 a1 = scutagelaw06_ClassTells.f 20 (-1) a1 := by
  have e1 : class_Of.f 20 a0 = class_Of.f 20 (-1) := by unfold class_Of.f; rw [if_pos h, if_pos (by decide)]; rfl
  have e2 : scutageref06_Of.f 20 a0 = scutageref06_Of.f 20 (-1) := by unfold scutageref06_Of.f; rw [if_pos h, if_pos (by decide)]; rfl
  have z1 : class_Of.f 20 (-1) = some 0 := rfl
  have z2 : scutageref06_Of.f 20 (-1) = some 0 := rfl
  have p1 : class_Pages.f 20 a0 = class_Pages.f 20 (-1) := by unfold class_Pages.f; rw [e1, z1]; rfl
  have p2 : scutageref06_Pages.f 20 a0 = scutageref06_Pages.f 20 (-1) := by unfold scutageref06_Pages.f; rw [e2, z2]; rfl
  simp only [scutagelaw06_ClassTells.f, e1, e2, p1, p2]
theorem law_great {a0 : Int} (a1 : Int) (h : 127 < a0) : scutagelaw06_ClassTells.f 20 a0 a1 = scutagelaw06_ClassTells.f 20 128 a1 := by
  have e1 : class_Of.f 20 a0 = class_Of.f 20 128 := by unfold class_Of.f; rw [if_neg (by omega), decide_eq_true h, if_neg (by decide)]; rfl
  have e2 : scutageref06_Of.f 20 a0 = scutageref06_Of.f 20 128 := by unfold scutageref06_Of.f; rw [if_neg (by omega), decide_eq_true h, if_neg (by decide)]; rfl
  have z1 : class_Of.f 20 128 = some 0 := rfl
  have z2 : scutageref06_Of.f 20 128 = some 0 := rfl
  have p1 : class_Pages.f 20 a0 = class_Pages.f 20 128 := by unfold class_Pages.f; rw [e1, z1]; rfl
  have p2 : scutageref06_Pages.f 20 a0 = scutageref06_Pages.f 20 128 := by unfold scutageref06_Pages.f; rw [e2, z2]; rfl
  simp only [scutagelaw06_ClassTells.f, e1, e2, p1, p2]

theorem law_mid {a0 a1 : Int} (h0 : -1 ≤ a0) (h1 : a0 ≤ 128) (h2 : 0 ≤ a1) (h3 : a1 ≤ 5) : scutagelaw06_ClassTells.f 20 a0 a1 = some true := by
  have h := tells_small ⟨(a0 + 1).toNat, by omega⟩ ⟨a1.toNat, by omega⟩
  have e0 : (((a0 + 1).toNat : Nat) : Int) - 1 = a0 := by omega
  have e1 : ((a1.toNat : Nat) : Int) = a1 := by omega
  simpa only [e0, e1] using h
theorem law_n {a0 a1 : Int} (h2 : 0 ≤ a1) (h3 : a1 ≤ 5) : scutagelaw06_ClassTells.f 20 a0 a1 = some true := by
  by_cases hn : a0 < 0
  · rw [law_neg _ hn]; exact law_mid (by decide) (by decide) h2 h3
  by_cases hg : 127 < a0
  · rw [law_great _ hg]; exact law_mid (by decide) (by decide) h2 h3
  exact law_mid (by omega) (by omega) h2 h3

theorem ClassTells : scutagelaw06_ClassTells.Pure := by
  intro a0 a1 _ _
  refine ⟨20, ?_⟩
  by_cases hl : a1 < 1
  · rw [law_low hl]; exact law_n (by decide) (by decide)
  by_cases hh : 5 ≤ a1
  · rw [law_high hh]; exact law_n (by decide) (by decide)
  exact law_n (by omega) (by omega)

end Go.Proofs.Ytbhldnomifnpdaa.Pure
