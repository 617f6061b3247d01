/- Proved: what the calls of package bitmap answer of a set that nobody made. -/
import Derived.Test.YtoipjmhfeggdeaaDoorBitmap5
namespace Go.Proofs.YtoipjmhfeggdeaaDoor.Bitmap
open Go.RowKit Go.Proofs.YtoipjmhfeggdeaaDoor.H Go.Proofs.YtoipjmhfeggdeaaDoor.Nums Go.Proofs.YtoipjmhfeggdeaaDoor.BitPure
set_option linter.unusedVariables false

theorem Odd.no {w w' : World} {g : Nat} (h : Odd w g) (hf : Fr No w w') : Odd w' g := hf.blk h (fun h => h)

theorem Odd.cells {w : World} {g : Nat} (h : Odd w g) : w.cell? ⟨g, 0, none⟩ = some (.bool false) := cell_of h 0

set_option maxHeartbeats 1600000 in
theorem in_nil (i : Int) (w : World) : Calls Tryd.prog 48 #[.pointer none, .int .i64 i] w (Quiet w (.bool false)) := by
  go_enter Tryd.func48, Tryd.ntmps48
  go_wp2_with fail
  go_ret
  exact ⟨rfl, 0, rfl⟩

set_option maxHeartbeats 1600000 in
theorem in_odd (i : Int) (g : Nat) (w : World) (hg : Odd w g) : Calls Tryd.prog 48 #[.pointer (some ⟨g, 0, none⟩), .int .i64 i] w (Quiet w (.bool false)) := by
  have c0 := hg.cells
  have HG := Lib.hid hg
  clear hg
  go_enter Tryd.func48, Tryd.ntmps48
  go_wp2_with fail
  go_ret
  exact ⟨rfl, 0, rfl⟩

set_option maxHeartbeats 1600000 in
theorem has_nil (i : Int) (w : World) : Calls Tryd.prog 36 #[.pointer none, .int .i64 i] w (Quiet w (.bool false)) := by
  go_enter Tryd.func36, Tryd.ntmps36
  go_wp2_with fail
  with_reducible refine (in_nil _ _).mono ?_
  rintro e w' ⟨rfl, q, rfl⟩
  go_wp2_with fail
  go_ret
  exact ⟨rfl, q, rfl⟩

set_option maxHeartbeats 1600000 in
theorem has_odd (i : Int) (g : Nat) (w : World) (hg : Odd w g) : Calls Tryd.prog 36 #[.pointer (some ⟨g, 0, none⟩), .int .i64 i] w (Quiet w (.bool false)) := by
  have c0 := hg.cells
  have HG := Lib.hid hg
  clear hg
  go_enter Tryd.func36, Tryd.ntmps36
  go_wp2_with fail
  with_reducible refine (in_odd _ _ _ HG.out).mono ?_
  rintro e w' ⟨rfl, q, rfl⟩
  go_wp2_with fail
  go_ret
  exact ⟨rfl, q, rfl⟩

set_option maxHeartbeats 1600000 in
theorem add_nil (i : Int) (w : World) : Calls Tryd.prog 37 #[.pointer none, .int .i64 i] w (Quiet w (.bool false)) := by
  go_enter Tryd.func37, Tryd.ntmps37
  go_wp2_with fail
  with_reducible refine (in_nil _ _).mono ?_
  rintro e w' ⟨rfl, q, rfl⟩
  go_wp2_with fail
  go_ret
  exact ⟨rfl, q, rfl⟩

set_option maxHeartbeats 1600000 in
theorem add_odd (i : Int) (g : Nat) (w : World) (hg : Odd w g) : Calls Tryd.prog 37 #[.pointer (some ⟨g, 0, none⟩), .int .i64 i] w (Quiet w (.bool false)) := by
  have c0 := hg.cells
  have HG := Lib.hid hg
  clear hg
  go_enter Tryd.func37, Tryd.ntmps37
  go_wp2_with fail
  with_reducible refine (in_odd _ _ _ HG.out).mono ?_
  rintro e w' ⟨rfl, q, rfl⟩
  go_wp2_with fail
  go_ret
  exact ⟨rfl, q, rfl⟩

set_option maxHeartbeats 1600000 in
theorem remove_nil (i : Int) (w : World) : Calls Tryd.prog 38 #[.pointer none, .int .i64 i] w (Quiet w (.bool false)) := by
  go_enter Tryd.func38, Tryd.ntmps38
  go_wp2_with fail
  with_reducible refine (has_nil _ _).mono ?_
  rintro e w' ⟨rfl, q, rfl⟩
  go_wp2_with fail
  go_ret
  exact ⟨rfl, q, rfl⟩

set_option maxHeartbeats 1600000 in
theorem next_nil (i : Int) (w : World) : Calls Tryd.prog 54 #[.pointer none, .int .i64 i] w (Quiet w (.int .i64 (-1))) := by
  go_enter Tryd.func54, Tryd.ntmps54
  go_wp2_with fail
  go_ret
  exact ⟨rfl, 0, rfl⟩

set_option maxHeartbeats 1600000 in
theorem next_odd (i : Int) (g : Nat) (w : World) (hg : Odd w g) : Calls Tryd.prog 54 #[.pointer (some ⟨g, 0, none⟩), .int .i64 i] w (Quiet w (.int .i64 (-1))) := by
  have c0 := hg.cells
  have HG := Lib.hid hg
  clear hg
  go_enter Tryd.func54, Tryd.ntmps54
  go_wp2_with fail
  go_ret
  exact ⟨rfl, 0, rfl⟩

set_option maxHeartbeats 1600000 in
theorem count_nil (w : World) : Calls Tryd.prog 39 #[.pointer none] w (Quiet w (.int .i64 0)) := by
  go_enter Tryd.func39, Tryd.ntmps39
  go_wp2_with fail
  go_ret
  exact ⟨rfl, 0, rfl⟩

set_option maxHeartbeats 1600000 in
theorem all_nil (w : World) : Calls Tryd.prog 44 #[.pointer none] w (Quiet w (.slice none 0 0)) := by
  go_enter Tryd.func44, Tryd.ntmps44
  go_wp2_with fail
  with_reducible refine (next_nil 0 _).mono ?_
  rintro e w' ⟨rfl, q, rfl⟩
  go_wp2_with fail
  go_loopw [3, 4] (fun o v wr => o = .slice none 0 0 ∧ v = .int .i64 (-1) ∧ wr = w.drewN q) (fun _ _ _ => 0)
  case atStart => exact ⟨rfl, rfl, rfl⟩
  case round =>
    obtain ⟨rfl, rfl, rfl⟩ := hrel
    go_wp2_with fail
    go_ret
    exact ⟨rfl, q, rfl⟩

set_option maxHeartbeats 1600000 in
theorem clone_nil (w : World) : Calls Tryd.prog 32 #[.pointer none] w (Quiet w (.pointer none)) := by
  go_enter Tryd.func32, Tryd.ntmps32
  go_wp2_with fail
  go_ret
  exact ⟨rfl, 0, rfl⟩

set_option maxHeartbeats 1600000 in
theorem clone_odd (g : Nat) (w : World) (hg : Odd w g) : Calls Tryd.prog 32 #[.pointer (some ⟨g, 0, none⟩)] w (Quiet w (.pointer none)) := by
  have c0 := hg.cells
  have HG := Lib.hid hg
  clear hg
  go_enter Tryd.func32, Tryd.ntmps32
  go_wp2_with fail
  go_ret
  exact ⟨rfl, 0, rfl⟩

end Go.Proofs.YtoipjmhfeggdeaaDoor.Bitmap
