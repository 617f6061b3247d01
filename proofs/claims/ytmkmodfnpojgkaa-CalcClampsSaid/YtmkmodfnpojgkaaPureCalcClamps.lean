/- Proved: for all numbers and ends the Go law CalcClamps answers true (its plain form; no condition beside the numbers being of int's kind). -/
import Derived.Test.YtmkmodfnpojgkaaPCalcClampsx1
namespace Go.Proofs.Ytmkmodfnpojgkaa.Pure
open Go.RowKit Go.Proofs.Ytmkmodfnpojgkaa.PCalcClamps Go.Proofs.YtmkmodfnpojgkaaW.PrintWords Go.Proofs.YtmkmodfnpojgkaaW.PrintLast

theorem alive_true : scutagelaw01_alive.f 9 = some true := by decide +kernel
theorem CalcClamps : scutagelaw01_CalcClamps.Pure := by
  intro n lo hi _ _ _
  refine ⟨9, ?_⟩
  unfold scutagelaw01_CalcClamps.f
  rw [alive_true]; simp only [Option.bind_some, if_true]
  by_cases h0 : n < lo
  · have e : calc_Clamp.f n lo hi = some lo := by unfold calc_Clamp.f; rw [if_pos h0]
    rw [e]; simp only [Option.bind_some]; rw [if_pos h0]; simp
  by_cases h1 : n > hi
  · have e : calc_Clamp.f n lo hi = some hi := by unfold calc_Clamp.f; rw [if_neg h0, if_pos h1]
    rw [e]; simp only [Option.bind_some]; rw [if_neg h0, if_pos h1]; simp
  · have e : calc_Clamp.f n lo hi = some n := by unfold calc_Clamp.f; rw [if_neg h0, if_neg h1]
    rw [e]; simp only [Option.bind_some]; rw [if_neg h0, if_neg h1, if_pos trivial, e]; simp

end Go.Proofs.Ytmkmodfnpojgkaa.Pure
