/- Proved: what the calls of package bitmap answer of a set that nobody made. -/
import Derived.Test.YtncbbphhndmibaaDoorBitmap5
namespace Go.Proofs.YtncbbphhndmibaaDoor.Bitmap
open Go.RowKit Go.Proofs.YtncbbphhndmibaaDoor.H Go.Proofs.YtncbbphhndmibaaDoor.Nums Go.Proofs.YtncbbphhndmibaaDoor.BitPure
set_option linter.unusedVariables false

theorem Odd.no {w w' : World} {g : Nat} (h : Odd w g) (hf : Fr No w w') : Odd w' g := hf.blk h (fun h => h)
theorem Odd.cells {w : World} {g : Nat} (h : Odd w g) : w.cell? ⟨g, 0, none⟩ = some (.bool false) := cell_of h 0
set_option maxHeartbeats 1600000 in
theorem in_nil (i : Int) (w : World) : Calls Tryd.prog 22 #[.pointer none, .int .i64 i] w (Quiet w (.bool false)) := by
  go_enter Tryd.func22, Tryd.ntmps22
  go_wp2_with fail
  go_ret
  exact ⟨rfl, 0, rfl⟩
set_option maxHeartbeats 1600000 in
theorem in_odd (i : Int) (g : Nat) (w : World) (hg : Odd w g) : Calls Tryd.prog 22 #[.pointer (some ⟨g, 0, none⟩), .int .i64 i] w (Quiet w (.bool false)) := by
  have c0 := hg.cells
  have HG := Lib.hid hg
  clear hg
  go_enter Tryd.func22, Tryd.ntmps22
  go_wp2_with fail
  go_ret
  exact ⟨rfl, 0, rfl⟩
set_option maxHeartbeats 1600000 in
theorem has_nil (i : Int) (w : World) : Calls Tryd.prog 20 #[.pointer none, .int .i64 i] w (Quiet w (.bool false)) := by
  go_enter Tryd.func20, Tryd.ntmps20
  go_wp2_with fail
  with_reducible refine (in_nil _ _).mono ?_
  rintro e w' ⟨rfl, q, rfl⟩
  go_wp2_with fail
  go_ret
  exact ⟨rfl, q, rfl⟩
set_option maxHeartbeats 1600000 in
theorem has_odd (i : Int) (g : Nat) (w : World) (hg : Odd w g) : Calls Tryd.prog 20 #[.pointer (some ⟨g, 0, none⟩), .int .i64 i] w (Quiet w (.bool false)) := by
  have c0 := hg.cells
  have HG := Lib.hid hg
  clear hg
  go_enter Tryd.func20, Tryd.ntmps20
  go_wp2_with fail
  with_reducible refine (in_odd _ _ _ HG.out).mono ?_
  rintro e w' ⟨rfl, q, rfl⟩
  go_wp2_with fail
  go_ret
  exact ⟨rfl, q, rfl⟩
set_option maxHeartbeats 1600000 in
theorem add_nil (i : Int) (w : World) : Calls Tryd.prog 8 #[.pointer none, .int .i64 i] w (Quiet w (.bool false)) := by
  go_enter Tryd.func8, Tryd.ntmps8
  go_wp2_with fail
  with_reducible refine (in_nil _ _).mono ?_
  rintro e w' ⟨rfl, q, rfl⟩
  go_wp2_with fail
  go_ret
  exact ⟨rfl, q, rfl⟩
set_option maxHeartbeats 1600000 in
theorem add_odd (i : Int) (g : Nat) (w : World) (hg : Odd w g) : Calls Tryd.prog 8 #[.pointer (some ⟨g, 0, none⟩), .int .i64 i] w (Quiet w (.bool false)) := by
  have c0 := hg.cells
  have HG := Lib.hid hg
  clear hg
  go_enter Tryd.func8, Tryd.ntmps8
  go_wp2_with fail
  with_reducible refine (in_odd _ _ _ HG.out).mono ?_
  rintro e w' ⟨rfl, q, rfl⟩
  go_wp2_with fail
  go_ret
  exact ⟨rfl, q, rfl⟩
set_option maxHeartbeats 1600000 in
theorem remove_nil (i : Int) (w : World) : Calls Tryd.prog 19 #[.pointer none, .int .i64 i] w (Quiet w (.bool false)) := by
  go_enter Tryd.func19, Tryd.ntmps19
  go_wp2_with fail
  with_reducible refine (has_nil _ _).mono ?_
  rintro e w' ⟨rfl, q, rfl⟩
  go_wp2_with fail
  go_ret
  exact ⟨rfl, q, rfl⟩
set_option maxHeartbeats 1600000 in
theorem next_nil (i : Int) (w : World) : Calls Tryd.prog 10 #[.pointer none, .int .i64 i] w (Quiet w (.int .i64 (-1))) := by
  go_enter Tryd.func10, Tryd.ntmps10
  go_wp2_with fail
  go_ret
  exact ⟨rfl, 0, rfl⟩
set_option maxHeartbeats 1600000 in
theorem next_odd (i : Int) (g : Nat) (w : World) (hg : Odd w g) : Calls Tryd.prog 10 #[.pointer (some ⟨g, 0, none⟩), .int .i64 i] w (Quiet w (.int .i64 (-1))) := by
  have c0 := hg.cells
  have HG := Lib.hid hg
  clear hg
  go_enter Tryd.func10, Tryd.ntmps10
  go_wp2_with fail
  go_ret
  exact ⟨rfl, 0, rfl⟩
set_option maxHeartbeats 1600000 in
theorem count_nil (w : World) : Calls Tryd.prog 11 #[.pointer none] w (Quiet w (.int .i64 0)) := by
  go_enter Tryd.func11, Tryd.ntmps11
  go_wp2_with fail
  go_ret
  exact ⟨rfl, 0, rfl⟩
set_option maxHeartbeats 1600000 in
theorem all_nil (w : World) : Calls Tryd.prog 18 #[.pointer none] w (Quiet w (.slice none 0 0)) := by
  go_enter Tryd.func18, Tryd.ntmps18
  go_wp2_with fail
  with_reducible refine (next_nil 0 _).mono ?_
  rintro e w' ⟨rfl, q, rfl⟩
  go_wp2_with fail
  go_loopw [3, 4] (fun o v wr => o = .slice none 0 0 ∧ v = .int .i64 (-1) ∧ wr = w.drewN q) (fun _ _ _ => 0)
  case atStart => exact ⟨rfl, rfl, rfl⟩
  case round =>
    obtain ⟨rfl, rfl, rfl⟩ := hrel
    go_wp2_with fail
    go_ret
    exact ⟨rfl, q, rfl⟩
set_option maxHeartbeats 1600000 in
theorem clone_nil (w : World) : Calls Tryd.prog 15 #[.pointer none] w (Quiet w (.pointer none)) := by
  go_enter Tryd.func15, Tryd.ntmps15
  go_wp2_with fail
  go_ret
  exact ⟨rfl, 0, rfl⟩
set_option maxHeartbeats 1600000 in
theorem clone_odd (g : Nat) (w : World) (hg : Odd w g) : Calls Tryd.prog 15 #[.pointer (some ⟨g, 0, none⟩)] w (Quiet w (.pointer none)) := by
  have c0 := hg.cells
  have HG := Lib.hid hg
  clear hg
  go_enter Tryd.func15, Tryd.ntmps15
  go_wp2_with fail
  go_ret
  exact ⟨rfl, 0, rfl⟩
end Go.Proofs.YtncbbphhndmibaaDoor.Bitmap
