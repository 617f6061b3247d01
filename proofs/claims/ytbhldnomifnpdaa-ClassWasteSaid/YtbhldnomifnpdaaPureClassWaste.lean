/- Proved: for every field count the Go law ClassWaste answers true (its plain form; no condition beside the number being of int's kind). -/
import Derived.Test.YtbhldnomifnpdaaPClassWastex1
namespace Go.Proofs.Ytbhldnomifnpdaa.Pure
open Go.RowKit Go.Proofs.Ytbhldnomifnpdaa.PClassWaste Go.Proofs.YtbhldnomifnpdaaW.PrintWords Go.Proofs.YtbhldnomifnpdaaW.PrintLast

theorem waste_small : ∀ n : Fin 130, scutagelaw06_ClassWaste.f 20 ((n.val : Int) - 1) = some true := by
  decide +kernel

theorem waste_of {k : Nat} {a : Int} (h : class_Of.f k a = some 0) : class_Waste.f k a = some 0 := by
  unfold class_Waste.f; rw [h]; rfl

theorem law_out {a0 : Int} (h : a0 < 0 ∨ 127 < a0) : scutagelaw06_ClassWaste.f 20 a0 = some true := by
  have ha : scutagelaw06_alive.f 20 = some true := by decide +kernel
  have ho : class_Of.f 20 a0 = some 0 := by
    unfold class_Of.f
    rcases h with h | h
    · rw [if_pos h]; rfl
    · rw [if_neg (by omega), decide_eq_true h]; rfl
  unfold scutagelaw06_ClassWaste.f
  rw [ha]; simp only [Option.bind_some, if_true]
  rw [ho, waste_of ho]; rfl

theorem ClassWaste : scutagelaw06_ClassWaste.Pure := by
  intro a0 _
  refine ⟨20, ?_⟩
  by_cases h : a0 < 0 ∨ 127 < a0
  · exact law_out h
  · have hs := waste_small ⟨(a0 + 1).toNat, by omega⟩
    have e0 : (((a0 + 1).toNat : Nat) : Int) - 1 = a0 := by omega
    simpa only [e0] using hs

end Go.Proofs.Ytbhldnomifnpdaa.Pure
