/- Proved: what the calls of package bitmap answer of a set that nobody made. -/
import Derived.Test.YtoipjmhfeggdeaaBitmap5
namespace Go.Proofs.Ytoipjmhfeggdeaa.Bitmap
open Go.RowKit Go.Proofs.Ytoipjmhfeggdeaa.H Go.Proofs.Ytoipjmhfeggdeaa.Nums Go.Proofs.Ytoipjmhfeggdeaa.BitPure
set_option linter.unusedVariables false

theorem Odd.no {w w' : World} {g : Nat} (h : Odd w g) (hf : Fr No w w') : Odd w' g := hf.blk h (fun h => h)

theorem Odd.cells {w : World} {g : Nat} (h : Odd w g) : w.cell? ⟨g, 0, none⟩ = some (.bool false) := cell_of h 0

set_option maxHeartbeats 1600000 in
theorem in_nil (i : Int) (w : World) : Calls Try.prog 25 #[.pointer none, .int .i64 i] w (Quiet w (.bool false)) := by
  go_enter Try.func25, Try.ntmps25
  go_wp2_with fail
  go_ret
  exact ⟨rfl, 0, rfl⟩

set_option maxHeartbeats 1600000 in
theorem in_odd (i : Int) (g : Nat) (w : World) (hg : Odd w g) : Calls Try.prog 25 #[.pointer (some ⟨g, 0, none⟩), .int .i64 i] w (Quiet w (.bool false)) := by
  have c0 := hg.cells
  have HG := Lib.hid hg
  clear hg
  go_enter Try.func25, Try.ntmps25
  go_wp2_with fail
  go_ret
  exact ⟨rfl, 0, rfl⟩

set_option maxHeartbeats 1600000 in
theorem has_nil (i : Int) (w : World) : Calls Try.prog 16 #[.pointer none, .int .i64 i] w (Quiet w (.bool false)) := by
  go_enter Try.func16, Try.ntmps16
  go_wp2_with fail
  with_reducible refine (in_nil _ _).mono ?_
  rintro e w' ⟨rfl, q, rfl⟩
  go_wp2_with fail
  go_ret
  exact ⟨rfl, q, rfl⟩

set_option maxHeartbeats 1600000 in
theorem has_odd (i : Int) (g : Nat) (w : World) (hg : Odd w g) : Calls Try.prog 16 #[.pointer (some ⟨g, 0, none⟩), .int .i64 i] w (Quiet w (.bool false)) := by
  have c0 := hg.cells
  have HG := Lib.hid hg
  clear hg
  go_enter Try.func16, Try.ntmps16
  go_wp2_with fail
  with_reducible refine (in_odd _ _ _ HG.out).mono ?_
  rintro e w' ⟨rfl, q, rfl⟩
  go_wp2_with fail
  go_ret
  exact ⟨rfl, q, rfl⟩

set_option maxHeartbeats 1600000 in
theorem add_nil (i : Int) (w : World) : Calls Try.prog 26 #[.pointer none, .int .i64 i] w (Quiet w (.bool false)) := by
  go_enter Try.func26, Try.ntmps26
  go_wp2_with fail
  with_reducible refine (in_nil _ _).mono ?_
  rintro e w' ⟨rfl, q, rfl⟩
  go_wp2_with fail
  go_ret
  exact ⟨rfl, q, rfl⟩

set_option maxHeartbeats 1600000 in
theorem add_odd (i : Int) (g : Nat) (w : World) (hg : Odd w g) : Calls Try.prog 26 #[.pointer (some ⟨g, 0, none⟩), .int .i64 i] w (Quiet w (.bool false)) := by
  have c0 := hg.cells
  have HG := Lib.hid hg
  clear hg
  go_enter Try.func26, Try.ntmps26
  go_wp2_with fail
  with_reducible refine (in_odd _ _ _ HG.out).mono ?_
  rintro e w' ⟨rfl, q, rfl⟩
  go_wp2_with fail
  go_ret
  exact ⟨rfl, q, rfl⟩

set_option maxHeartbeats 1600000 in
theorem count_nil (w : World) : Calls Try.prog 19 #[.pointer none] w (Quiet w (.int .i64 0)) := by
  go_enter Try.func19, Try.ntmps19
  go_wp2_with fail
  go_ret
  exact ⟨rfl, 0, rfl⟩

end Go.Proofs.Ytoipjmhfeggdeaa.Bitmap
