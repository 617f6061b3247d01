/- Proved: what Take, Give of package chain do and answer. -/
import Derived.Test.YtbndmcblkfaheaaChain3
namespace Go.Proofs.Ytbndmcblkfaheaa.Chain
open Go.RowKit Go.Proofs.Ytbndmcblkfaheaa.H Go.Proofs.Ytbndmcblkfaheaa.Words Go.Proofs.Ytbndmcblkfaheaa.Mem
set_option linter.unusedVariables false
set_option linter.unusedSimpArgs false
attribute [local irreducible] nc sz

/-- what taking answers -/
def takeV (f n : Int) (o : Option Int) : Value := match o with | some y => .tuple #[.int .i64 f, .agg #[.int .i64 y, .int .i64 (n - 1)], .bool true] | none => .tuple #[.int .i64 0, .agg #[.int .i64 0, .int .i64 0], .bool false]
def takeS (l : List Int) (p k f n : Int) : Option Int := if Op l p k ∧ 1 ≤ n ∧ 0 ≤ f ∧ f < (nc k : Int) then lk l p.toNat k f.toNat else none

theorem heap2_of (w : World) (o q : Obj) : ((w.alloc o).alloc q).heap[w.heap.size]? = some o ∧ ((w.alloc o).alloc q).heap[w.heap.size + 1]? = some q :=
  ⟨(Below.heap_alloc (w.alloc o) q _ (by simp)).trans (heap_alloc_new w o), by have h := heap_alloc_new (w.alloc o) q; rw [show (w.alloc o).heap.size = w.heap.size + 1 from by simp] at h; exact h⟩

set_option maxRecDepth 100000 in
set_option maxHeartbeats 6400000 in
theorem take_no_page (B g : Nat) (v : Value) (l : List Int) (p k : Int) (f n : Int) (ho : ¬ Op l p k) (w : World) (hs : M w B g v l) :
    Calls Try.prog 12 #[.pointer (some ⟨g, 0, none⟩), .int .i64 p, .int .i64 k, .agg #[.int .i64 f, .int .i64 n]] w (Same w (.tuple #[.int .i64 0, .agg #[.int .i64 0, .int .i64 0], .bool false])) := by
  have HO := Lib.hid (fun W (hW : Fr No w W) => open_false ho (hs.no hW))
  clear hs ho
  go_enter Try.func12, Try.ntmps12
  go_wp2_with fail
  have F0 := Lib.hid (((Fr.refl No w).alloc (.cells #[.int .i64 f, .int .i64 n] 29)).alloc (.cells #[.int .i64 0, .int .i64 0] 29))
  have XI0 := Lib.hid (heap2_of w (.cells #[.int .i64 f, .int .i64 n] 29) (.cells #[.int .i64 0, .int .i64 0] 29)).1
  have XR0 := Lib.hid (heap2_of w (.cells #[.int .i64 f, .int .i64 n] 29) (.cells #[.int .i64 0, .int .i64 0] 29)).2
  have Z0 := Lib.hid (show ((w.alloc (.cells #[.int .i64 f, .int .i64 n] 29)).alloc (.cells #[.int .i64 0, .int .i64 0] 29)).heap.size = w.heap.size + 2 by simp)
  generalize (w.alloc (.cells #[.int .i64 f, .int .i64 n] 29)).alloc (.cells #[.int .i64 0, .int .i64 0] 29) = w0 at F0 XI0 XR0 Z0 ⊢
  with_reducible refine (HO.out _ F0.out).mono ?_
  rintro e w1 ⟨rfl, hb1⟩
  have F1 := Lib.hid (F0.out.trans (Fr.of_below hb1 No) (fun i (h : No i) => h.elim))
  have HBS := Lib.hid (show w.heap.size + 2 ≤ w1.heap.size by have := hb1.size; have := Z0.out; omega)
  have XI1 := Lib.hid ((Fr.of_below hb1 No).blk XI0.out (fun h => h))
  have XR1 := Lib.hid ((Fr.of_below hb1 No).blk XR0.out (fun h => h))
  have XI2 := Lib.hid (alloc_of XI1.out (.cells #[.pointer (some ⟨g, 0, none⟩), .int .i64 p, .int .i64 k, .int .i64 (nc k)] 60))
  have XR2 := Lib.hid (alloc_of XR1.out (.cells #[.pointer (some ⟨g, 0, none⟩), .int .i64 p, .int .i64 k, .int .i64 (nc k)] 60))
  have XC2 := Lib.hid (heap_alloc_new w1 (.cells #[.pointer (some ⟨g, 0, none⟩), .int .i64 p, .int .i64 k, .int .i64 (nc k)] 60))
  have F2 := Lib.hid (F1.out.alloc (.cells #[.pointer (some ⟨g, 0, none⟩), .int .i64 p, .int .i64 k, .int .i64 (nc k)] 60))
  clear hb1 F0 XI0 XR0 Z0 XI1 XR1
  have i0a : (w1.alloc (.cells #[.pointer (some ⟨g, 0, none⟩), .int .i64 p, .int .i64 k, .int .i64 (nc k)] 60)).cell? ⟨w.heap.size, 0, none⟩ = some (.int .i64 f) := cell_of XI2.out 0
  have i1a : (w1.alloc (.cells #[.pointer (some ⟨g, 0, none⟩), .int .i64 p, .int .i64 k, .int .i64 (nc k)] 60)).cell? ⟨w.heap.size, 1, none⟩ = some (.int .i64 n) := cell_of XI2.out 1
  have r0a : (w1.alloc (.cells #[.pointer (some ⟨g, 0, none⟩), .int .i64 p, .int .i64 k, .int .i64 (nc k)] 60)).cell? ⟨w.heap.size + 1, 0, none⟩ = some (.int .i64 0) := cell_of XR2.out 0
  have r1a : (w1.alloc (.cells #[.pointer (some ⟨g, 0, none⟩), .int .i64 p, .int .i64 k, .int .i64 (nc k)] 60)).cell? ⟨w.heap.size + 1, 1, none⟩ = some (.int .i64 0) := cell_of XR2.out 1
  have s0a := free_of XR2.out 0
  have s1a := free_of XR2.out 1
  have c0a : (w1.alloc (.cells #[.pointer (some ⟨g, 0, none⟩), .int .i64 p, .int .i64 k, .int .i64 (nc k)] 60)).cell? ⟨w1.heap.size, 0, none⟩ = some (.pointer (some ⟨g, 0, none⟩)) := cell_of XC2.out 0
  have c1a : (w1.alloc (.cells #[.pointer (some ⟨g, 0, none⟩), .int .i64 p, .int .i64 k, .int .i64 (nc k)] 60)).cell? ⟨w1.heap.size, 1, none⟩ = some (.int .i64 p) := cell_of XC2.out 1
  have c2a : (w1.alloc (.cells #[.pointer (some ⟨g, 0, none⟩), .int .i64 p, .int .i64 k, .int .i64 (nc k)] 60)).cell? ⟨w1.heap.size, 2, none⟩ = some (.int .i64 k) := cell_of XC2.out 2
  have c3a : (w1.alloc (.cells #[.pointer (some ⟨g, 0, none⟩), .int .i64 p, .int .i64 k, .int .i64 (nc k)] 60)).cell? ⟨w1.heap.size, 3, none⟩ = some (.int .i64 (nc k)) := cell_of XC2.out 3
  go_wp2_with fail
  refine bodyPost_ret (v := .tuple #[.int .i64 0, .agg #[.int .i64 0, .int .i64 0], .bool false]) (by simp [results, Try.results12, go_sem, cell_of (set2_of XR2.out (.int .i64 0) (.int .i64 0))]) rfl ⟨rfl, ?_⟩
  exact ((F2.out.setCell (p := ⟨w.heap.size + 1, 0, none⟩) (.inr (by simp)) _).setCell (p := ⟨w.heap.size + 1, 1, none⟩) (.inr (by simp)) _).below (Nat.le_refl _) (fun _ h => h.elim)

set_option maxRecDepth 100000 in
set_option maxHeartbeats 6400000 in
theorem take_no_n (B g : Nat) (v : Value) (l : List Int) (p : Nat) (k : Int) (f n : Int) (hp : p < 64) (hk : 0 < nc k) (hl : 32 * p + 32 ≤ l.length) (hn : n < 1) (w : World) (hs : M w B g v l) :
    Calls Try.prog 12 #[.pointer (some ⟨g, 0, none⟩), .int .i64 p, .int .i64 k, .agg #[.int .i64 f, .int .i64 n]] w (Same w (.tuple #[.int .i64 0, .agg #[.int .i64 0, .int .i64 0], .bool false])) := by
  have HO := Lib.hid (fun W (hW : Fr No w W) => open_true hp hk hl (hs.no hW))
  clear hs hp hk hl
  go_enter Try.func12, Try.ntmps12
  go_wp2_with fail
  have F0 := Lib.hid (((Fr.refl No w).alloc (.cells #[.int .i64 f, .int .i64 n] 29)).alloc (.cells #[.int .i64 0, .int .i64 0] 29))
  have XI0 := Lib.hid (heap2_of w (.cells #[.int .i64 f, .int .i64 n] 29) (.cells #[.int .i64 0, .int .i64 0] 29)).1
  have XR0 := Lib.hid (heap2_of w (.cells #[.int .i64 f, .int .i64 n] 29) (.cells #[.int .i64 0, .int .i64 0] 29)).2
  have Z0 := Lib.hid (show ((w.alloc (.cells #[.int .i64 f, .int .i64 n] 29)).alloc (.cells #[.int .i64 0, .int .i64 0] 29)).heap.size = w.heap.size + 2 by simp)
  generalize (w.alloc (.cells #[.int .i64 f, .int .i64 n] 29)).alloc (.cells #[.int .i64 0, .int .i64 0] 29) = w0 at F0 XI0 XR0 Z0 ⊢
  with_reducible refine (HO.out _ F0.out).mono ?_
  rintro e w1 ⟨rfl, hb1⟩
  have F1 := Lib.hid (F0.out.trans (Fr.of_below hb1 No) (fun i (h : No i) => h.elim))
  have HBS := Lib.hid (show w.heap.size + 2 ≤ w1.heap.size by have := hb1.size; have := Z0.out; omega)
  have XI1 := Lib.hid ((Fr.of_below hb1 No).blk XI0.out (fun h => h))
  have XR1 := Lib.hid ((Fr.of_below hb1 No).blk XR0.out (fun h => h))
  have XI2 := Lib.hid (alloc_of XI1.out (.cells #[.pointer (some ⟨g, 0, none⟩), .int .i64 p, .int .i64 k, .int .i64 (nc k)] 60))
  have XR2 := Lib.hid (alloc_of XR1.out (.cells #[.pointer (some ⟨g, 0, none⟩), .int .i64 p, .int .i64 k, .int .i64 (nc k)] 60))
  have XC2 := Lib.hid (heap_alloc_new w1 (.cells #[.pointer (some ⟨g, 0, none⟩), .int .i64 p, .int .i64 k, .int .i64 (nc k)] 60))
  have F2 := Lib.hid (F1.out.alloc (.cells #[.pointer (some ⟨g, 0, none⟩), .int .i64 p, .int .i64 k, .int .i64 (nc k)] 60))
  clear hb1 F0 XI0 XR0 Z0 XI1 XR1
  have i0a : (w1.alloc (.cells #[.pointer (some ⟨g, 0, none⟩), .int .i64 p, .int .i64 k, .int .i64 (nc k)] 60)).cell? ⟨w.heap.size, 0, none⟩ = some (.int .i64 f) := cell_of XI2.out 0
  have i1a : (w1.alloc (.cells #[.pointer (some ⟨g, 0, none⟩), .int .i64 p, .int .i64 k, .int .i64 (nc k)] 60)).cell? ⟨w.heap.size, 1, none⟩ = some (.int .i64 n) := cell_of XI2.out 1
  have r0a : (w1.alloc (.cells #[.pointer (some ⟨g, 0, none⟩), .int .i64 p, .int .i64 k, .int .i64 (nc k)] 60)).cell? ⟨w.heap.size + 1, 0, none⟩ = some (.int .i64 0) := cell_of XR2.out 0
  have r1a : (w1.alloc (.cells #[.pointer (some ⟨g, 0, none⟩), .int .i64 p, .int .i64 k, .int .i64 (nc k)] 60)).cell? ⟨w.heap.size + 1, 1, none⟩ = some (.int .i64 0) := cell_of XR2.out 1
  have s0a := free_of XR2.out 0
  have s1a := free_of XR2.out 1
  have c0a : (w1.alloc (.cells #[.pointer (some ⟨g, 0, none⟩), .int .i64 p, .int .i64 k, .int .i64 (nc k)] 60)).cell? ⟨w1.heap.size, 0, none⟩ = some (.pointer (some ⟨g, 0, none⟩)) := cell_of XC2.out 0
  have c1a : (w1.alloc (.cells #[.pointer (some ⟨g, 0, none⟩), .int .i64 p, .int .i64 k, .int .i64 (nc k)] 60)).cell? ⟨w1.heap.size, 1, none⟩ = some (.int .i64 p) := cell_of XC2.out 1
  have c2a : (w1.alloc (.cells #[.pointer (some ⟨g, 0, none⟩), .int .i64 p, .int .i64 k, .int .i64 (nc k)] 60)).cell? ⟨w1.heap.size, 2, none⟩ = some (.int .i64 k) := cell_of XC2.out 2
  have c3a : (w1.alloc (.cells #[.pointer (some ⟨g, 0, none⟩), .int .i64 p, .int .i64 k, .int .i64 (nc k)] 60)).cell? ⟨w1.heap.size, 3, none⟩ = some (.int .i64 (nc k)) := cell_of XC2.out 3
  go_wp2_with fail
  refine bodyPost_ret (v := .tuple #[.int .i64 0, .agg #[.int .i64 0, .int .i64 0], .bool false]) (by simp [results, Try.results12, go_sem, cell_of (set2_of XR2.out (.int .i64 0) (.int .i64 0))]) rfl ⟨rfl, ?_⟩
  exact ((F2.out.setCell (p := ⟨w.heap.size + 1, 0, none⟩) (.inr (by simp)) _).setCell (p := ⟨w.heap.size + 1, 1, none⟩) (.inr (by simp)) _).below (Nat.le_refl _) (fun _ h => h.elim)

set_option maxRecDepth 100000 in
set_option maxHeartbeats 6400000 in
theorem take_no_is (B g : Nat) (v : Value) (l : List Int) (p : Nat) (k : Int) (f n : Int) (hp : p < 64) (hk : 0 < nc k) (hl : 32 * p + 32 ≤ l.length) (hn : 1 ≤ n) (hi : (decide (0 ≤ f) && decide (f < (nc k : Int))) = false) (w : World) (hs : M w B g v l) :
    Calls Try.prog 12 #[.pointer (some ⟨g, 0, none⟩), .int .i64 p, .int .i64 k, .agg #[.int .i64 f, .int .i64 n]] w (Same w (.tuple #[.int .i64 0, .agg #[.int .i64 0, .int .i64 0], .bool false])) := by
  have HO := Lib.hid (fun W (hW : Fr No w W) => open_true hp hk hl (hs.no hW))
  have HI := Lib.hid hi
  have g0 : decide (n < 1) = false := by simp; omega
  clear hs hp hk hl hi hn
  go_enter Try.func12, Try.ntmps12
  go_wp2_with fail
  have F0 := Lib.hid (((Fr.refl No w).alloc (.cells #[.int .i64 f, .int .i64 n] 29)).alloc (.cells #[.int .i64 0, .int .i64 0] 29))
  have XI0 := Lib.hid (heap2_of w (.cells #[.int .i64 f, .int .i64 n] 29) (.cells #[.int .i64 0, .int .i64 0] 29)).1
  have XR0 := Lib.hid (heap2_of w (.cells #[.int .i64 f, .int .i64 n] 29) (.cells #[.int .i64 0, .int .i64 0] 29)).2
  have Z0 := Lib.hid (show ((w.alloc (.cells #[.int .i64 f, .int .i64 n] 29)).alloc (.cells #[.int .i64 0, .int .i64 0] 29)).heap.size = w.heap.size + 2 by simp)
  generalize (w.alloc (.cells #[.int .i64 f, .int .i64 n] 29)).alloc (.cells #[.int .i64 0, .int .i64 0] 29) = w0 at F0 XI0 XR0 Z0 ⊢
  with_reducible refine (HO.out _ F0.out).mono ?_
  rintro e w1 ⟨rfl, hb1⟩
  have F1 := Lib.hid (F0.out.trans (Fr.of_below hb1 No) (fun i (h : No i) => h.elim))
  have HBS := Lib.hid (show w.heap.size + 2 ≤ w1.heap.size by have := hb1.size; have := Z0.out; omega)
  have XI1 := Lib.hid ((Fr.of_below hb1 No).blk XI0.out (fun h => h))
  have XR1 := Lib.hid ((Fr.of_below hb1 No).blk XR0.out (fun h => h))
  have XI2 := Lib.hid (alloc_of XI1.out (.cells #[.pointer (some ⟨g, 0, none⟩), .int .i64 p, .int .i64 k, .int .i64 (nc k)] 60))
  have XR2 := Lib.hid (alloc_of XR1.out (.cells #[.pointer (some ⟨g, 0, none⟩), .int .i64 p, .int .i64 k, .int .i64 (nc k)] 60))
  have XC2 := Lib.hid (heap_alloc_new w1 (.cells #[.pointer (some ⟨g, 0, none⟩), .int .i64 p, .int .i64 k, .int .i64 (nc k)] 60))
  have F2 := Lib.hid (F1.out.alloc (.cells #[.pointer (some ⟨g, 0, none⟩), .int .i64 p, .int .i64 k, .int .i64 (nc k)] 60))
  clear hb1 F0 XI0 XR0 Z0 XI1 XR1
  have i0a : (w1.alloc (.cells #[.pointer (some ⟨g, 0, none⟩), .int .i64 p, .int .i64 k, .int .i64 (nc k)] 60)).cell? ⟨w.heap.size, 0, none⟩ = some (.int .i64 f) := cell_of XI2.out 0
  have i1a : (w1.alloc (.cells #[.pointer (some ⟨g, 0, none⟩), .int .i64 p, .int .i64 k, .int .i64 (nc k)] 60)).cell? ⟨w.heap.size, 1, none⟩ = some (.int .i64 n) := cell_of XI2.out 1
  have r0a : (w1.alloc (.cells #[.pointer (some ⟨g, 0, none⟩), .int .i64 p, .int .i64 k, .int .i64 (nc k)] 60)).cell? ⟨w.heap.size + 1, 0, none⟩ = some (.int .i64 0) := cell_of XR2.out 0
  have r1a : (w1.alloc (.cells #[.pointer (some ⟨g, 0, none⟩), .int .i64 p, .int .i64 k, .int .i64 (nc k)] 60)).cell? ⟨w.heap.size + 1, 1, none⟩ = some (.int .i64 0) := cell_of XR2.out 1
  have s0a := free_of XR2.out 0
  have s1a := free_of XR2.out 1
  have c0a : (w1.alloc (.cells #[.pointer (some ⟨g, 0, none⟩), .int .i64 p, .int .i64 k, .int .i64 (nc k)] 60)).cell? ⟨w1.heap.size, 0, none⟩ = some (.pointer (some ⟨g, 0, none⟩)) := cell_of XC2.out 0
  have c1a : (w1.alloc (.cells #[.pointer (some ⟨g, 0, none⟩), .int .i64 p, .int .i64 k, .int .i64 (nc k)] 60)).cell? ⟨w1.heap.size, 1, none⟩ = some (.int .i64 p) := cell_of XC2.out 1
  have c2a : (w1.alloc (.cells #[.pointer (some ⟨g, 0, none⟩), .int .i64 p, .int .i64 k, .int .i64 (nc k)] 60)).cell? ⟨w1.heap.size, 2, none⟩ = some (.int .i64 k) := cell_of XC2.out 2
  have c3a : (w1.alloc (.cells #[.pointer (some ⟨g, 0, none⟩), .int .i64 p, .int .i64 k, .int .i64 (nc k)] 60)).cell? ⟨w1.heap.size, 3, none⟩ = some (.int .i64 (nc k)) := cell_of XC2.out 3
  go_wp2_with fail
  refine (is_any g p k f _).mono ?_
  rintro e w3 ⟨rfl, hb⟩
  have Fw3 := Lib.hid (show Fr No w w3 from Fr.then_below (by repeat (first | exact F2.out | apply Fr.drewN | apply Fr.drew | apply Fr.alloc)) hb)
  have XIw3 := Lib.hid ((Fr.of_below hb No).blk XI2.out (fun h => h))
  have XRw3 := Lib.hid ((Fr.of_below hb No).blk XR2.out (fun h => h))
  have XCw3 := Lib.hid ((Fr.of_below hb No).blk XC2.out (fun h => h))
  clear hb
  clear i0a i1a r0a r1a s0a s1a c0a c1a c2a c3a
  have i0b : w3.cell? ⟨w.heap.size, 0, none⟩ = some (.int .i64 f) := cell_of XIw3.out 0
  have i1b : w3.cell? ⟨w.heap.size, 1, none⟩ = some (.int .i64 n) := cell_of XIw3.out 1
  have r0b : w3.cell? ⟨w.heap.size + 1, 0, none⟩ = some (.int .i64 0) := cell_of XRw3.out 0
  have r1b : w3.cell? ⟨w.heap.size + 1, 1, none⟩ = some (.int .i64 0) := cell_of XRw3.out 1
  have s0b := free_of XRw3.out 0
  have s1b := free_of XRw3.out 1
  have c0b : w3.cell? ⟨w1.heap.size, 0, none⟩ = some (.pointer (some ⟨g, 0, none⟩)) := cell_of XCw3.out 0
  have c1b : w3.cell? ⟨w1.heap.size, 1, none⟩ = some (.int .i64 p) := cell_of XCw3.out 1
  have c2b : w3.cell? ⟨w1.heap.size, 2, none⟩ = some (.int .i64 k) := cell_of XCw3.out 2
  have c3b : w3.cell? ⟨w1.heap.size, 3, none⟩ = some (.int .i64 (nc k)) := cell_of XCw3.out 3
  rw [HI.out]
  go_wp2_with fail
  refine bodyPost_ret (v := .tuple #[.int .i64 0, .agg #[.int .i64 0, .int .i64 0], .bool false]) (by simp [results, Try.results12, go_sem, cell_of (set2_of XRw3.out (.int .i64 0) (.int .i64 0))]) rfl ⟨rfl, ?_⟩
  exact ((Fw3.out.setCell (p := ⟨w.heap.size + 1, 0, none⟩) (.inr (by simp)) _).setCell (p := ⟨w.heap.size + 1, 1, none⟩) (.inr (by simp)) _).below (Nat.le_refl _) (fun _ h => h.elim)

set_option maxRecDepth 100000 in
set_option maxHeartbeats 6400000 in
theorem take_no_next (B g : Nat) (v : Value) (l : List Int) (p : Nat) (k : Int) (f : Nat) (n : Int) (hp : p < 64) (hk : 0 < nc k) (hl : 32 * p + 32 ≤ l.length) (hn : 1 ≤ n) (hi : f < nc k) (hx : lk l p k f = none) (w : World) (hs : M w B g v l) :
    Calls Try.prog 12 #[.pointer (some ⟨g, 0, none⟩), .int .i64 p, .int .i64 k, .agg #[.int .i64 f, .int .i64 n]] w (Same w (.tuple #[.int .i64 0, .agg #[.int .i64 0, .int .i64 0], .bool false])) := by
  have HO := Lib.hid (fun W (hW : Fr No w W) => open_true hp hk hl (hs.no hW))
  have HI := Lib.hid (show (decide ((0 : Int) ≤ (f : Int)) && decide ((f : Int) < (nc k : Int))) = true by simp; omega)
  have HN := Lib.hid (fun W (hW : Fr No w W) => next_any B g v l p k f hp hi hl W (hs.no hW))
  have g0 : decide (n < 1) = false := by simp; omega
  have HK := Lib.hid hx
  clear hs hp hk hl hi hn hx
  go_enter Try.func12, Try.ntmps12
  go_wp2_with fail
  have F0 := Lib.hid (((Fr.refl No w).alloc (.cells #[.int .i64 f, .int .i64 n] 29)).alloc (.cells #[.int .i64 0, .int .i64 0] 29))
  have XI0 := Lib.hid (heap2_of w (.cells #[.int .i64 f, .int .i64 n] 29) (.cells #[.int .i64 0, .int .i64 0] 29)).1
  have XR0 := Lib.hid (heap2_of w (.cells #[.int .i64 f, .int .i64 n] 29) (.cells #[.int .i64 0, .int .i64 0] 29)).2
  have Z0 := Lib.hid (show ((w.alloc (.cells #[.int .i64 f, .int .i64 n] 29)).alloc (.cells #[.int .i64 0, .int .i64 0] 29)).heap.size = w.heap.size + 2 by simp)
  generalize (w.alloc (.cells #[.int .i64 f, .int .i64 n] 29)).alloc (.cells #[.int .i64 0, .int .i64 0] 29) = w0 at F0 XI0 XR0 Z0 ⊢
  with_reducible refine (HO.out _ F0.out).mono ?_
  rintro e w1 ⟨rfl, hb1⟩
  have F1 := Lib.hid (F0.out.trans (Fr.of_below hb1 No) (fun i (h : No i) => h.elim))
  have HBS := Lib.hid (show w.heap.size + 2 ≤ w1.heap.size by have := hb1.size; have := Z0.out; omega)
  have XI1 := Lib.hid ((Fr.of_below hb1 No).blk XI0.out (fun h => h))
  have XR1 := Lib.hid ((Fr.of_below hb1 No).blk XR0.out (fun h => h))
  have XI2 := Lib.hid (alloc_of XI1.out (.cells #[.pointer (some ⟨g, 0, none⟩), .int .i64 p, .int .i64 k, .int .i64 (nc k)] 60))
  have XR2 := Lib.hid (alloc_of XR1.out (.cells #[.pointer (some ⟨g, 0, none⟩), .int .i64 p, .int .i64 k, .int .i64 (nc k)] 60))
  have XC2 := Lib.hid (heap_alloc_new w1 (.cells #[.pointer (some ⟨g, 0, none⟩), .int .i64 p, .int .i64 k, .int .i64 (nc k)] 60))
  have F2 := Lib.hid (F1.out.alloc (.cells #[.pointer (some ⟨g, 0, none⟩), .int .i64 p, .int .i64 k, .int .i64 (nc k)] 60))
  clear hb1 F0 XI0 XR0 Z0 XI1 XR1
  have i0a : (w1.alloc (.cells #[.pointer (some ⟨g, 0, none⟩), .int .i64 p, .int .i64 k, .int .i64 (nc k)] 60)).cell? ⟨w.heap.size, 0, none⟩ = some (.int .i64 f) := cell_of XI2.out 0
  have i1a : (w1.alloc (.cells #[.pointer (some ⟨g, 0, none⟩), .int .i64 p, .int .i64 k, .int .i64 (nc k)] 60)).cell? ⟨w.heap.size, 1, none⟩ = some (.int .i64 n) := cell_of XI2.out 1
  have r0a : (w1.alloc (.cells #[.pointer (some ⟨g, 0, none⟩), .int .i64 p, .int .i64 k, .int .i64 (nc k)] 60)).cell? ⟨w.heap.size + 1, 0, none⟩ = some (.int .i64 0) := cell_of XR2.out 0
  have r1a : (w1.alloc (.cells #[.pointer (some ⟨g, 0, none⟩), .int .i64 p, .int .i64 k, .int .i64 (nc k)] 60)).cell? ⟨w.heap.size + 1, 1, none⟩ = some (.int .i64 0) := cell_of XR2.out 1
  have s0a := free_of XR2.out 0
  have s1a := free_of XR2.out 1
  have c0a : (w1.alloc (.cells #[.pointer (some ⟨g, 0, none⟩), .int .i64 p, .int .i64 k, .int .i64 (nc k)] 60)).cell? ⟨w1.heap.size, 0, none⟩ = some (.pointer (some ⟨g, 0, none⟩)) := cell_of XC2.out 0
  have c1a : (w1.alloc (.cells #[.pointer (some ⟨g, 0, none⟩), .int .i64 p, .int .i64 k, .int .i64 (nc k)] 60)).cell? ⟨w1.heap.size, 1, none⟩ = some (.int .i64 p) := cell_of XC2.out 1
  have c2a : (w1.alloc (.cells #[.pointer (some ⟨g, 0, none⟩), .int .i64 p, .int .i64 k, .int .i64 (nc k)] 60)).cell? ⟨w1.heap.size, 2, none⟩ = some (.int .i64 k) := cell_of XC2.out 2
  have c3a : (w1.alloc (.cells #[.pointer (some ⟨g, 0, none⟩), .int .i64 p, .int .i64 k, .int .i64 (nc k)] 60)).cell? ⟨w1.heap.size, 3, none⟩ = some (.int .i64 (nc k)) := cell_of XC2.out 3
  go_wp2_with fail
  refine (is_any g p k (f : Int) _).mono ?_
  rintro e w3 ⟨rfl, hb⟩
  have Fw3 := Lib.hid (show Fr No w w3 from Fr.then_below (by repeat (first | exact F2.out | apply Fr.drewN | apply Fr.drew | apply Fr.alloc)) hb)
  have XIw3 := Lib.hid ((Fr.of_below hb No).blk XI2.out (fun h => h))
  have XRw3 := Lib.hid ((Fr.of_below hb No).blk XR2.out (fun h => h))
  have XCw3 := Lib.hid ((Fr.of_below hb No).blk XC2.out (fun h => h))
  clear hb
  clear i0a i1a r0a r1a s0a s1a c0a c1a c2a c3a
  have i0b : w3.cell? ⟨w.heap.size, 0, none⟩ = some (.int .i64 f) := cell_of XIw3.out 0
  have i1b : w3.cell? ⟨w.heap.size, 1, none⟩ = some (.int .i64 n) := cell_of XIw3.out 1
  have r0b : w3.cell? ⟨w.heap.size + 1, 0, none⟩ = some (.int .i64 0) := cell_of XRw3.out 0
  have r1b : w3.cell? ⟨w.heap.size + 1, 1, none⟩ = some (.int .i64 0) := cell_of XRw3.out 1
  have s0b := free_of XRw3.out 0
  have s1b := free_of XRw3.out 1
  have c0b : w3.cell? ⟨w1.heap.size, 0, none⟩ = some (.pointer (some ⟨g, 0, none⟩)) := cell_of XCw3.out 0
  have c1b : w3.cell? ⟨w1.heap.size, 1, none⟩ = some (.int .i64 p) := cell_of XCw3.out 1
  have c2b : w3.cell? ⟨w1.heap.size, 2, none⟩ = some (.int .i64 k) := cell_of XCw3.out 2
  have c3b : w3.cell? ⟨w1.heap.size, 3, none⟩ = some (.int .i64 (nc k)) := cell_of XCw3.out 3
  rw [HI.out]
  go_wp2_with fail
  refine (HN.out _ (by repeat (first | exact Fw3.out | apply Fr.drewN | apply Fr.drew | apply Fr.alloc))).mono ?_
  rintro e w4 ⟨rfl, hb⟩
  have Fw4 := Lib.hid (show Fr No w w4 from Fr.then_below (by repeat (first | exact Fw3.out | apply Fr.drewN | apply Fr.drew | apply Fr.alloc)) hb)
  have XIw4 := Lib.hid ((Fr.of_below hb No).blk XIw3.out (fun h => h))
  have XRw4 := Lib.hid ((Fr.of_below hb No).blk XRw3.out (fun h => h))
  have XCw4 := Lib.hid ((Fr.of_below hb No).blk XCw3.out (fun h => h))
  clear hb
  clear i0b i1b r0b r1b s0b s1b c0b c1b c2b c3b
  have i0c : w4.cell? ⟨w.heap.size, 0, none⟩ = some (.int .i64 f) := cell_of XIw4.out 0
  have i1c : w4.cell? ⟨w.heap.size, 1, none⟩ = some (.int .i64 n) := cell_of XIw4.out 1
  have r0c : w4.cell? ⟨w.heap.size + 1, 0, none⟩ = some (.int .i64 0) := cell_of XRw4.out 0
  have r1c : w4.cell? ⟨w.heap.size + 1, 1, none⟩ = some (.int .i64 0) := cell_of XRw4.out 1
  have s0c := free_of XRw4.out 0
  have s1c := free_of XRw4.out 1
  have c0c : w4.cell? ⟨w1.heap.size, 0, none⟩ = some (.pointer (some ⟨g, 0, none⟩)) := cell_of XCw4.out 0
  have c1c : w4.cell? ⟨w1.heap.size, 1, none⟩ = some (.int .i64 p) := cell_of XCw4.out 1
  have c2c : w4.cell? ⟨w1.heap.size, 2, none⟩ = some (.int .i64 k) := cell_of XCw4.out 2
  have c3c : w4.cell? ⟨w1.heap.size, 3, none⟩ = some (.int .i64 (nc k)) := cell_of XCw4.out 3
  rw [HK.out]
  unfold told
  dsimp only
  go_wp2_with fail
  refine bodyPost_ret (v := .tuple #[.int .i64 0, .agg #[.int .i64 0, .int .i64 0], .bool false]) (by simp [results, Try.results12, go_sem, cell_of (set2_of XRw4.out (.int .i64 0) (.int .i64 0))]) rfl ⟨rfl, ?_⟩
  exact ((Fw4.out.setCell (p := ⟨w.heap.size + 1, 0, none⟩) (.inr (by simp)) _).setCell (p := ⟨w.heap.size + 1, 1, none⟩) (.inr (by simp)) _).below (Nat.le_refl _) (fun _ h => h.elim)

set_option maxRecDepth 100000 in
set_option maxHeartbeats 6400000 in
theorem take_yes (B g : Nat) (v : Value) (l : List Int) (p : Nat) (k : Int) (f : Nat) (n : Int) (hp : p < 64) (hk : 0 < nc k) (hl : 32 * p + 32 ≤ l.length) (hn : 1 ≤ n) (hi : f < nc k) (h63 : n ≤ 9223372036854775807) (y : Int) (hx : lk l p k f = some y) (w : World) (hs : M w B g v l) :
    Calls Try.prog 12 #[.pointer (some ⟨g, 0, none⟩), .int .i64 p, .int .i64 k, .agg #[.int .i64 f, .int .i64 n]] w (Same w (.tuple #[.int .i64 f, .agg #[.int .i64 y, .int .i64 (n - 1)], .bool true])) := by
  have HO := Lib.hid (fun W (hW : Fr No w W) => open_true hp hk hl (hs.no hW))
  have HI := Lib.hid (show (decide ((0 : Int) ≤ (f : Int)) && decide ((f : Int) < (nc k : Int))) = true by simp; omega)
  have HN := Lib.hid (fun W (hW : Fr No w W) => next_any B g v l p k f hp hi hl W (hs.no hW))
  have g0 : decide (n < 1) = false := by simp; omega
  have HK := Lib.hid hx
  clear hs hp hk hl hi hx
  go_enter Try.func12, Try.ntmps12
  go_wp2_with fail
  have F0 := Lib.hid (((Fr.refl No w).alloc (.cells #[.int .i64 f, .int .i64 n] 29)).alloc (.cells #[.int .i64 0, .int .i64 0] 29))
  have XI0 := Lib.hid (heap2_of w (.cells #[.int .i64 f, .int .i64 n] 29) (.cells #[.int .i64 0, .int .i64 0] 29)).1
  have XR0 := Lib.hid (heap2_of w (.cells #[.int .i64 f, .int .i64 n] 29) (.cells #[.int .i64 0, .int .i64 0] 29)).2
  have Z0 := Lib.hid (show ((w.alloc (.cells #[.int .i64 f, .int .i64 n] 29)).alloc (.cells #[.int .i64 0, .int .i64 0] 29)).heap.size = w.heap.size + 2 by simp)
  generalize (w.alloc (.cells #[.int .i64 f, .int .i64 n] 29)).alloc (.cells #[.int .i64 0, .int .i64 0] 29) = w0 at F0 XI0 XR0 Z0 ⊢
  with_reducible refine (HO.out _ F0.out).mono ?_
  rintro e w1 ⟨rfl, hb1⟩
  have F1 := Lib.hid (F0.out.trans (Fr.of_below hb1 No) (fun i (h : No i) => h.elim))
  have HBS := Lib.hid (show w.heap.size + 2 ≤ w1.heap.size by have := hb1.size; have := Z0.out; omega)
  have XI1 := Lib.hid ((Fr.of_below hb1 No).blk XI0.out (fun h => h))
  have XR1 := Lib.hid ((Fr.of_below hb1 No).blk XR0.out (fun h => h))
  have XI2 := Lib.hid (alloc_of XI1.out (.cells #[.pointer (some ⟨g, 0, none⟩), .int .i64 p, .int .i64 k, .int .i64 (nc k)] 60))
  have XR2 := Lib.hid (alloc_of XR1.out (.cells #[.pointer (some ⟨g, 0, none⟩), .int .i64 p, .int .i64 k, .int .i64 (nc k)] 60))
  have XC2 := Lib.hid (heap_alloc_new w1 (.cells #[.pointer (some ⟨g, 0, none⟩), .int .i64 p, .int .i64 k, .int .i64 (nc k)] 60))
  have F2 := Lib.hid (F1.out.alloc (.cells #[.pointer (some ⟨g, 0, none⟩), .int .i64 p, .int .i64 k, .int .i64 (nc k)] 60))
  clear hb1 F0 XI0 XR0 Z0 XI1 XR1
  have i0a : (w1.alloc (.cells #[.pointer (some ⟨g, 0, none⟩), .int .i64 p, .int .i64 k, .int .i64 (nc k)] 60)).cell? ⟨w.heap.size, 0, none⟩ = some (.int .i64 f) := cell_of XI2.out 0
  have i1a : (w1.alloc (.cells #[.pointer (some ⟨g, 0, none⟩), .int .i64 p, .int .i64 k, .int .i64 (nc k)] 60)).cell? ⟨w.heap.size, 1, none⟩ = some (.int .i64 n) := cell_of XI2.out 1
  have r0a : (w1.alloc (.cells #[.pointer (some ⟨g, 0, none⟩), .int .i64 p, .int .i64 k, .int .i64 (nc k)] 60)).cell? ⟨w.heap.size + 1, 0, none⟩ = some (.int .i64 0) := cell_of XR2.out 0
  have r1a : (w1.alloc (.cells #[.pointer (some ⟨g, 0, none⟩), .int .i64 p, .int .i64 k, .int .i64 (nc k)] 60)).cell? ⟨w.heap.size + 1, 1, none⟩ = some (.int .i64 0) := cell_of XR2.out 1
  have s0a := free_of XR2.out 0
  have s1a := free_of XR2.out 1
  have c0a : (w1.alloc (.cells #[.pointer (some ⟨g, 0, none⟩), .int .i64 p, .int .i64 k, .int .i64 (nc k)] 60)).cell? ⟨w1.heap.size, 0, none⟩ = some (.pointer (some ⟨g, 0, none⟩)) := cell_of XC2.out 0
  have c1a : (w1.alloc (.cells #[.pointer (some ⟨g, 0, none⟩), .int .i64 p, .int .i64 k, .int .i64 (nc k)] 60)).cell? ⟨w1.heap.size, 1, none⟩ = some (.int .i64 p) := cell_of XC2.out 1
  have c2a : (w1.alloc (.cells #[.pointer (some ⟨g, 0, none⟩), .int .i64 p, .int .i64 k, .int .i64 (nc k)] 60)).cell? ⟨w1.heap.size, 2, none⟩ = some (.int .i64 k) := cell_of XC2.out 2
  have c3a : (w1.alloc (.cells #[.pointer (some ⟨g, 0, none⟩), .int .i64 p, .int .i64 k, .int .i64 (nc k)] 60)).cell? ⟨w1.heap.size, 3, none⟩ = some (.int .i64 (nc k)) := cell_of XC2.out 3
  go_wp2_with fail
  refine (is_any g p k (f : Int) _).mono ?_
  rintro e w3 ⟨rfl, hb⟩
  have Fw3 := Lib.hid (show Fr No w w3 from Fr.then_below (by repeat (first | exact F2.out | apply Fr.drewN | apply Fr.drew | apply Fr.alloc)) hb)
  have XIw3 := Lib.hid ((Fr.of_below hb No).blk XI2.out (fun h => h))
  have XRw3 := Lib.hid ((Fr.of_below hb No).blk XR2.out (fun h => h))
  have XCw3 := Lib.hid ((Fr.of_below hb No).blk XC2.out (fun h => h))
  clear hb
  clear i0a i1a r0a r1a s0a s1a c0a c1a c2a c3a
  have i0b : w3.cell? ⟨w.heap.size, 0, none⟩ = some (.int .i64 f) := cell_of XIw3.out 0
  have i1b : w3.cell? ⟨w.heap.size, 1, none⟩ = some (.int .i64 n) := cell_of XIw3.out 1
  have r0b : w3.cell? ⟨w.heap.size + 1, 0, none⟩ = some (.int .i64 0) := cell_of XRw3.out 0
  have r1b : w3.cell? ⟨w.heap.size + 1, 1, none⟩ = some (.int .i64 0) := cell_of XRw3.out 1
  have s0b := free_of XRw3.out 0
  have s1b := free_of XRw3.out 1
  have c0b : w3.cell? ⟨w1.heap.size, 0, none⟩ = some (.pointer (some ⟨g, 0, none⟩)) := cell_of XCw3.out 0
  have c1b : w3.cell? ⟨w1.heap.size, 1, none⟩ = some (.int .i64 p) := cell_of XCw3.out 1
  have c2b : w3.cell? ⟨w1.heap.size, 2, none⟩ = some (.int .i64 k) := cell_of XCw3.out 2
  have c3b : w3.cell? ⟨w1.heap.size, 3, none⟩ = some (.int .i64 (nc k)) := cell_of XCw3.out 3
  rw [HI.out]
  go_wp2_with fail
  refine (HN.out _ (by repeat (first | exact Fw3.out | apply Fr.drewN | apply Fr.drew | apply Fr.alloc))).mono ?_
  rintro e w4 ⟨rfl, hb⟩
  have Fw4 := Lib.hid (show Fr No w w4 from Fr.then_below (by repeat (first | exact Fw3.out | apply Fr.drewN | apply Fr.drew | apply Fr.alloc)) hb)
  have XIw4 := Lib.hid ((Fr.of_below hb No).blk XIw3.out (fun h => h))
  have XRw4 := Lib.hid ((Fr.of_below hb No).blk XRw3.out (fun h => h))
  have XCw4 := Lib.hid ((Fr.of_below hb No).blk XCw3.out (fun h => h))
  clear hb
  clear i0b i1b r0b r1b s0b s1b c0b c1b c2b c3b
  have i0c : w4.cell? ⟨w.heap.size, 0, none⟩ = some (.int .i64 f) := cell_of XIw4.out 0
  have i1c : w4.cell? ⟨w.heap.size, 1, none⟩ = some (.int .i64 n) := cell_of XIw4.out 1
  have r0c : w4.cell? ⟨w.heap.size + 1, 0, none⟩ = some (.int .i64 0) := cell_of XRw4.out 0
  have r1c : w4.cell? ⟨w.heap.size + 1, 1, none⟩ = some (.int .i64 0) := cell_of XRw4.out 1
  have s0c := free_of XRw4.out 0
  have s1c := free_of XRw4.out 1
  have c0c : w4.cell? ⟨w1.heap.size, 0, none⟩ = some (.pointer (some ⟨g, 0, none⟩)) := cell_of XCw4.out 0
  have c1c : w4.cell? ⟨w1.heap.size, 1, none⟩ = some (.int .i64 p) := cell_of XCw4.out 1
  have c2c : w4.cell? ⟨w1.heap.size, 2, none⟩ = some (.int .i64 k) := cell_of XCw4.out 2
  have c3c : w4.cell? ⟨w1.heap.size, 3, none⟩ = some (.int .i64 (nc k)) := cell_of XCw4.out 3
  rw [HK.out]
  unfold told
  dsimp only
  go_wp2_with fail
  go_region
  go_wp2_with fail
  refine bodyPost_ret (v := .tuple #[.int .i64 f, .agg #[.int .i64 y, .int .i64 (n - 1)], .bool true]) (by simp [results, Try.results12, go_sem, cell_of (set2_of XRw4.out (.int .i64 y) (.int .i64 (n - 1)))]) rfl ⟨rfl, ?_⟩
  have h := (Fw4.out.setCell (p := ⟨w.heap.size + 1, 0, none⟩) (.inr (by simp)) (.int .i64 y)).setCell (p := ⟨w.heap.size + 1, 1, none⟩) (.inr (by simp)) (.int .i64 (n - 1))
  first | exact h.below (Nat.le_refl _) (fun _ h => h.elim) | exact h.drew.below (Nat.le_refl _) (fun _ h => h.elim)

theorem take_any (B g : Nat) (v : Value) (l : List Int) (p k f n : Int) (h63 : n ≤ 9223372036854775807) (w : World) (hs : M w B g v l) :
    Calls Try.prog 12 #[.pointer (some ⟨g, 0, none⟩), .int .i64 p, .int .i64 k, .agg #[.int .i64 f, .int .i64 n]] w (Same w (takeV f n (takeS l p k f n))) := by
  by_cases ho : Op l p k
  · obtain ⟨h1, h2, h3, h4⟩ := ho
    obtain ⟨q, rfl⟩ := Int.eq_ofNat_of_zero_le h1
    have hp : q < 64 := by omega
    have hl : 32 * q + 32 ≤ l.length := by omega
    by_cases hn : n < 1
    · rw [show takeS l q k f n = none from by unfold takeS; rw [if_neg (fun h => by have := h.2.1; omega)]]
      exact take_no_n B g v l q k f n hp h3 hl hn w hs
    by_cases hf : 0 ≤ f ∧ f < (nc k : Int)
    · obtain ⟨i, rfl⟩ := Int.eq_ofNat_of_zero_le hf.1
      have e : takeS l q k i n = lk l q k i := by
        unfold takeS
        rw [if_pos ⟨⟨h1, h2, h3, h4⟩, by omega, hf⟩]
        rfl
      rw [e]
      cases hx : lk l q k i with
      | none => exact take_no_next B g v l q k i n hp h3 hl (by omega) (by omega) hx w hs
      | some y => exact take_yes B g v l q k i n hp h3 hl (by omega) (by omega) h63 y hx w hs
    · rw [show takeS l q k f n = none from by unfold takeS; rw [if_neg (fun h => hf ⟨h.2.2.1, h.2.2.2⟩)]]
      exact take_no_is B g v l q k f n hp h3 hl (by omega) (by rw [Bool.and_eq_false_iff, decide_eq_false_iff_not, decide_eq_false_iff_not]; omega) w hs
  · rw [show takeS l p k f n = none from by unfold takeS; rw [if_neg (fun h => ho h.1)]]
    exact take_no_page B g v l p k f n ho w hs

set_option maxRecDepth 100000 in
set_option maxHeartbeats 6400000 in
theorem give_no_page (B g : Nat) (v : Value) (l : List Int) (p k : Int) (f n : Int) (i : Int) (ho : ¬ Op l p k) (w : World) (hs : M w B g v l) :
    Calls Try.prog 16 #[.pointer (some ⟨g, 0, none⟩), .int .i64 p, .int .i64 k, .agg #[.int .i64 f, .int .i64 n], .int .i64 i] w (Same w (.tuple #[.agg #[.int .i64 0, .int .i64 0], .bool false])) := by
  have HO := Lib.hid (fun W (hW : Fr No w W) => open_false ho (hs.no hW))
  clear hs ho
  go_enter Try.func16, Try.ntmps16
  go_wp2_with fail
  have F0 := Lib.hid (((Fr.refl No w).alloc (.cells #[.int .i64 f, .int .i64 n] 29)).alloc (.cells #[.int .i64 0, .int .i64 0] 29))
  have XI0 := Lib.hid (heap2_of w (.cells #[.int .i64 f, .int .i64 n] 29) (.cells #[.int .i64 0, .int .i64 0] 29)).1
  have XR0 := Lib.hid (heap2_of w (.cells #[.int .i64 f, .int .i64 n] 29) (.cells #[.int .i64 0, .int .i64 0] 29)).2
  have Z0 := Lib.hid (show ((w.alloc (.cells #[.int .i64 f, .int .i64 n] 29)).alloc (.cells #[.int .i64 0, .int .i64 0] 29)).heap.size = w.heap.size + 2 by simp)
  generalize (w.alloc (.cells #[.int .i64 f, .int .i64 n] 29)).alloc (.cells #[.int .i64 0, .int .i64 0] 29) = w0 at F0 XI0 XR0 Z0 ⊢
  with_reducible refine (HO.out _ F0.out).mono ?_
  rintro e w1 ⟨rfl, hb1⟩
  have F1 := Lib.hid (F0.out.trans (Fr.of_below hb1 No) (fun i (h : No i) => h.elim))
  have HBS := Lib.hid (show w.heap.size + 2 ≤ w1.heap.size by have := hb1.size; have := Z0.out; omega)
  have XI1 := Lib.hid ((Fr.of_below hb1 No).blk XI0.out (fun h => h))
  have XR1 := Lib.hid ((Fr.of_below hb1 No).blk XR0.out (fun h => h))
  have XI2 := Lib.hid (alloc_of XI1.out (.cells #[.pointer (some ⟨g, 0, none⟩), .int .i64 p, .int .i64 k, .int .i64 (nc k)] 60))
  have XR2 := Lib.hid (alloc_of XR1.out (.cells #[.pointer (some ⟨g, 0, none⟩), .int .i64 p, .int .i64 k, .int .i64 (nc k)] 60))
  have XC2 := Lib.hid (heap_alloc_new w1 (.cells #[.pointer (some ⟨g, 0, none⟩), .int .i64 p, .int .i64 k, .int .i64 (nc k)] 60))
  have F2 := Lib.hid (F1.out.alloc (.cells #[.pointer (some ⟨g, 0, none⟩), .int .i64 p, .int .i64 k, .int .i64 (nc k)] 60))
  clear hb1 F0 XI0 XR0 Z0 XI1 XR1
  have i0a : (w1.alloc (.cells #[.pointer (some ⟨g, 0, none⟩), .int .i64 p, .int .i64 k, .int .i64 (nc k)] 60)).cell? ⟨w.heap.size, 0, none⟩ = some (.int .i64 f) := cell_of XI2.out 0
  have i1a : (w1.alloc (.cells #[.pointer (some ⟨g, 0, none⟩), .int .i64 p, .int .i64 k, .int .i64 (nc k)] 60)).cell? ⟨w.heap.size, 1, none⟩ = some (.int .i64 n) := cell_of XI2.out 1
  have r0a : (w1.alloc (.cells #[.pointer (some ⟨g, 0, none⟩), .int .i64 p, .int .i64 k, .int .i64 (nc k)] 60)).cell? ⟨w.heap.size + 1, 0, none⟩ = some (.int .i64 0) := cell_of XR2.out 0
  have r1a : (w1.alloc (.cells #[.pointer (some ⟨g, 0, none⟩), .int .i64 p, .int .i64 k, .int .i64 (nc k)] 60)).cell? ⟨w.heap.size + 1, 1, none⟩ = some (.int .i64 0) := cell_of XR2.out 1
  have s0a := free_of XR2.out 0
  have s1a := free_of XR2.out 1
  have c0a : (w1.alloc (.cells #[.pointer (some ⟨g, 0, none⟩), .int .i64 p, .int .i64 k, .int .i64 (nc k)] 60)).cell? ⟨w1.heap.size, 0, none⟩ = some (.pointer (some ⟨g, 0, none⟩)) := cell_of XC2.out 0
  have c1a : (w1.alloc (.cells #[.pointer (some ⟨g, 0, none⟩), .int .i64 p, .int .i64 k, .int .i64 (nc k)] 60)).cell? ⟨w1.heap.size, 1, none⟩ = some (.int .i64 p) := cell_of XC2.out 1
  have c2a : (w1.alloc (.cells #[.pointer (some ⟨g, 0, none⟩), .int .i64 p, .int .i64 k, .int .i64 (nc k)] 60)).cell? ⟨w1.heap.size, 2, none⟩ = some (.int .i64 k) := cell_of XC2.out 2
  have c3a : (w1.alloc (.cells #[.pointer (some ⟨g, 0, none⟩), .int .i64 p, .int .i64 k, .int .i64 (nc k)] 60)).cell? ⟨w1.heap.size, 3, none⟩ = some (.int .i64 (nc k)) := cell_of XC2.out 3
  go_wp2_with fail
  refine bodyPost_ret (v := .tuple #[.agg #[.int .i64 0, .int .i64 0], .bool false]) (by simp [results, Try.results16, go_sem, cell_of (set2_of XR2.out (.int .i64 0) (.int .i64 0))]) rfl ⟨rfl, ?_⟩
  exact ((F2.out.setCell (p := ⟨w.heap.size + 1, 0, none⟩) (.inr (by simp)) _).setCell (p := ⟨w.heap.size + 1, 1, none⟩) (.inr (by simp)) _).below (Nat.le_refl _) (fun _ h => h.elim)

set_option maxRecDepth 100000 in
set_option maxHeartbeats 6400000 in
theorem give_no_is (B g : Nat) (v : Value) (l : List Int) (p : Nat) (k : Int) (f n : Int) (hp : p < 64) (hk : 0 < nc k) (hl : 32 * p + 32 ≤ l.length) (i : Int) (hi : (decide (0 ≤ i) && decide (i < (nc k : Int))) = false) (w : World) (hs : M w B g v l) :
    Calls Try.prog 16 #[.pointer (some ⟨g, 0, none⟩), .int .i64 p, .int .i64 k, .agg #[.int .i64 f, .int .i64 n], .int .i64 i] w (Same w (.tuple #[.agg #[.int .i64 0, .int .i64 0], .bool false])) := by
  have HO := Lib.hid (fun W (hW : Fr No w W) => open_true hp hk hl (hs.no hW))
  have HI := Lib.hid hi
  clear hs hp hk hl hi
  go_enter Try.func16, Try.ntmps16
  go_wp2_with fail
  have F0 := Lib.hid (((Fr.refl No w).alloc (.cells #[.int .i64 f, .int .i64 n] 29)).alloc (.cells #[.int .i64 0, .int .i64 0] 29))
  have XI0 := Lib.hid (heap2_of w (.cells #[.int .i64 f, .int .i64 n] 29) (.cells #[.int .i64 0, .int .i64 0] 29)).1
  have XR0 := Lib.hid (heap2_of w (.cells #[.int .i64 f, .int .i64 n] 29) (.cells #[.int .i64 0, .int .i64 0] 29)).2
  have Z0 := Lib.hid (show ((w.alloc (.cells #[.int .i64 f, .int .i64 n] 29)).alloc (.cells #[.int .i64 0, .int .i64 0] 29)).heap.size = w.heap.size + 2 by simp)
  generalize (w.alloc (.cells #[.int .i64 f, .int .i64 n] 29)).alloc (.cells #[.int .i64 0, .int .i64 0] 29) = w0 at F0 XI0 XR0 Z0 ⊢
  with_reducible refine (HO.out _ F0.out).mono ?_
  rintro e w1 ⟨rfl, hb1⟩
  have F1 := Lib.hid (F0.out.trans (Fr.of_below hb1 No) (fun i (h : No i) => h.elim))
  have HBS := Lib.hid (show w.heap.size + 2 ≤ w1.heap.size by have := hb1.size; have := Z0.out; omega)
  have XI1 := Lib.hid ((Fr.of_below hb1 No).blk XI0.out (fun h => h))
  have XR1 := Lib.hid ((Fr.of_below hb1 No).blk XR0.out (fun h => h))
  have XI2 := Lib.hid (alloc_of XI1.out (.cells #[.pointer (some ⟨g, 0, none⟩), .int .i64 p, .int .i64 k, .int .i64 (nc k)] 60))
  have XR2 := Lib.hid (alloc_of XR1.out (.cells #[.pointer (some ⟨g, 0, none⟩), .int .i64 p, .int .i64 k, .int .i64 (nc k)] 60))
  have XC2 := Lib.hid (heap_alloc_new w1 (.cells #[.pointer (some ⟨g, 0, none⟩), .int .i64 p, .int .i64 k, .int .i64 (nc k)] 60))
  have F2 := Lib.hid (F1.out.alloc (.cells #[.pointer (some ⟨g, 0, none⟩), .int .i64 p, .int .i64 k, .int .i64 (nc k)] 60))
  clear hb1 F0 XI0 XR0 Z0 XI1 XR1
  have i0a : (w1.alloc (.cells #[.pointer (some ⟨g, 0, none⟩), .int .i64 p, .int .i64 k, .int .i64 (nc k)] 60)).cell? ⟨w.heap.size, 0, none⟩ = some (.int .i64 f) := cell_of XI2.out 0
  have i1a : (w1.alloc (.cells #[.pointer (some ⟨g, 0, none⟩), .int .i64 p, .int .i64 k, .int .i64 (nc k)] 60)).cell? ⟨w.heap.size, 1, none⟩ = some (.int .i64 n) := cell_of XI2.out 1
  have r0a : (w1.alloc (.cells #[.pointer (some ⟨g, 0, none⟩), .int .i64 p, .int .i64 k, .int .i64 (nc k)] 60)).cell? ⟨w.heap.size + 1, 0, none⟩ = some (.int .i64 0) := cell_of XR2.out 0
  have r1a : (w1.alloc (.cells #[.pointer (some ⟨g, 0, none⟩), .int .i64 p, .int .i64 k, .int .i64 (nc k)] 60)).cell? ⟨w.heap.size + 1, 1, none⟩ = some (.int .i64 0) := cell_of XR2.out 1
  have s0a := free_of XR2.out 0
  have s1a := free_of XR2.out 1
  have c0a : (w1.alloc (.cells #[.pointer (some ⟨g, 0, none⟩), .int .i64 p, .int .i64 k, .int .i64 (nc k)] 60)).cell? ⟨w1.heap.size, 0, none⟩ = some (.pointer (some ⟨g, 0, none⟩)) := cell_of XC2.out 0
  have c1a : (w1.alloc (.cells #[.pointer (some ⟨g, 0, none⟩), .int .i64 p, .int .i64 k, .int .i64 (nc k)] 60)).cell? ⟨w1.heap.size, 1, none⟩ = some (.int .i64 p) := cell_of XC2.out 1
  have c2a : (w1.alloc (.cells #[.pointer (some ⟨g, 0, none⟩), .int .i64 p, .int .i64 k, .int .i64 (nc k)] 60)).cell? ⟨w1.heap.size, 2, none⟩ = some (.int .i64 k) := cell_of XC2.out 2
  have c3a : (w1.alloc (.cells #[.pointer (some ⟨g, 0, none⟩), .int .i64 p, .int .i64 k, .int .i64 (nc k)] 60)).cell? ⟨w1.heap.size, 3, none⟩ = some (.int .i64 (nc k)) := cell_of XC2.out 3
  go_wp2_with fail
  refine (is_any g p k i _).mono ?_
  rintro e w3 ⟨rfl, hb⟩
  have Fw3 := Lib.hid (show Fr No w w3 from Fr.then_below (by repeat (first | exact F2.out | apply Fr.drewN | apply Fr.drew | apply Fr.alloc)) hb)
  have XIw3 := Lib.hid ((Fr.of_below hb No).blk XI2.out (fun h => h))
  have XRw3 := Lib.hid ((Fr.of_below hb No).blk XR2.out (fun h => h))
  have XCw3 := Lib.hid ((Fr.of_below hb No).blk XC2.out (fun h => h))
  clear hb
  clear i0a i1a r0a r1a s0a s1a c0a c1a c2a c3a
  have i0b : w3.cell? ⟨w.heap.size, 0, none⟩ = some (.int .i64 f) := cell_of XIw3.out 0
  have i1b : w3.cell? ⟨w.heap.size, 1, none⟩ = some (.int .i64 n) := cell_of XIw3.out 1
  have r0b : w3.cell? ⟨w.heap.size + 1, 0, none⟩ = some (.int .i64 0) := cell_of XRw3.out 0
  have r1b : w3.cell? ⟨w.heap.size + 1, 1, none⟩ = some (.int .i64 0) := cell_of XRw3.out 1
  have s0b := free_of XRw3.out 0
  have s1b := free_of XRw3.out 1
  have c0b : w3.cell? ⟨w1.heap.size, 0, none⟩ = some (.pointer (some ⟨g, 0, none⟩)) := cell_of XCw3.out 0
  have c1b : w3.cell? ⟨w1.heap.size, 1, none⟩ = some (.int .i64 p) := cell_of XCw3.out 1
  have c2b : w3.cell? ⟨w1.heap.size, 2, none⟩ = some (.int .i64 k) := cell_of XCw3.out 2
  have c3b : w3.cell? ⟨w1.heap.size, 3, none⟩ = some (.int .i64 (nc k)) := cell_of XCw3.out 3
  rw [HI.out]
  go_wp2_with fail
  refine bodyPost_ret (v := .tuple #[.agg #[.int .i64 0, .int .i64 0], .bool false]) (by simp [results, Try.results16, go_sem, cell_of (set2_of XRw3.out (.int .i64 0) (.int .i64 0))]) rfl ⟨rfl, ?_⟩
  exact ((Fw3.out.setCell (p := ⟨w.heap.size + 1, 0, none⟩) (.inr (by simp)) _).setCell (p := ⟨w.heap.size + 1, 1, none⟩) (.inr (by simp)) _).below (Nat.le_refl _) (fun _ h => h.elim)

set_option maxRecDepth 100000 in
set_option maxHeartbeats 6400000 in
theorem give_no_1 (B g : Nat) (v : Value) (l : List Int) (p : Nat) (k : Int) (f n : Int) (hp : p < 64) (hk : 0 < nc k) (hl : 32 * p + 32 ≤ l.length) (i : Nat) (hi : i < nc k) (hh : n < 0) (w : World) (hs : M w B g v l) :
    Calls Try.prog 16 #[.pointer (some ⟨g, 0, none⟩), .int .i64 p, .int .i64 k, .agg #[.int .i64 f, .int .i64 n], .int .i64 i] w (Same w (.tuple #[.agg #[.int .i64 0, .int .i64 0], .bool false])) := by
  have HO := Lib.hid (fun W (hW : Fr No w W) => open_true hp hk hl (hs.no hW))
  have HI := Lib.hid (show (decide ((0 : Int) ≤ (i : Int)) && decide ((i : Int) < (nc k : Int))) = true by simp; omega)
  have g1 : decide (n < 0) = true := by simp; omega
  clear hs hp hk hl hi hh
  go_enter Try.func16, Try.ntmps16
  go_wp2_with fail
  have F0 := Lib.hid (((Fr.refl No w).alloc (.cells #[.int .i64 f, .int .i64 n] 29)).alloc (.cells #[.int .i64 0, .int .i64 0] 29))
  have XI0 := Lib.hid (heap2_of w (.cells #[.int .i64 f, .int .i64 n] 29) (.cells #[.int .i64 0, .int .i64 0] 29)).1
  have XR0 := Lib.hid (heap2_of w (.cells #[.int .i64 f, .int .i64 n] 29) (.cells #[.int .i64 0, .int .i64 0] 29)).2
  have Z0 := Lib.hid (show ((w.alloc (.cells #[.int .i64 f, .int .i64 n] 29)).alloc (.cells #[.int .i64 0, .int .i64 0] 29)).heap.size = w.heap.size + 2 by simp)
  generalize (w.alloc (.cells #[.int .i64 f, .int .i64 n] 29)).alloc (.cells #[.int .i64 0, .int .i64 0] 29) = w0 at F0 XI0 XR0 Z0 ⊢
  with_reducible refine (HO.out _ F0.out).mono ?_
  rintro e w1 ⟨rfl, hb1⟩
  have F1 := Lib.hid (F0.out.trans (Fr.of_below hb1 No) (fun i (h : No i) => h.elim))
  have HBS := Lib.hid (show w.heap.size + 2 ≤ w1.heap.size by have := hb1.size; have := Z0.out; omega)
  have XI1 := Lib.hid ((Fr.of_below hb1 No).blk XI0.out (fun h => h))
  have XR1 := Lib.hid ((Fr.of_below hb1 No).blk XR0.out (fun h => h))
  have XI2 := Lib.hid (alloc_of XI1.out (.cells #[.pointer (some ⟨g, 0, none⟩), .int .i64 p, .int .i64 k, .int .i64 (nc k)] 60))
  have XR2 := Lib.hid (alloc_of XR1.out (.cells #[.pointer (some ⟨g, 0, none⟩), .int .i64 p, .int .i64 k, .int .i64 (nc k)] 60))
  have XC2 := Lib.hid (heap_alloc_new w1 (.cells #[.pointer (some ⟨g, 0, none⟩), .int .i64 p, .int .i64 k, .int .i64 (nc k)] 60))
  have F2 := Lib.hid (F1.out.alloc (.cells #[.pointer (some ⟨g, 0, none⟩), .int .i64 p, .int .i64 k, .int .i64 (nc k)] 60))
  clear hb1 F0 XI0 XR0 Z0 XI1 XR1
  have i0a : (w1.alloc (.cells #[.pointer (some ⟨g, 0, none⟩), .int .i64 p, .int .i64 k, .int .i64 (nc k)] 60)).cell? ⟨w.heap.size, 0, none⟩ = some (.int .i64 f) := cell_of XI2.out 0
  have i1a : (w1.alloc (.cells #[.pointer (some ⟨g, 0, none⟩), .int .i64 p, .int .i64 k, .int .i64 (nc k)] 60)).cell? ⟨w.heap.size, 1, none⟩ = some (.int .i64 n) := cell_of XI2.out 1
  have r0a : (w1.alloc (.cells #[.pointer (some ⟨g, 0, none⟩), .int .i64 p, .int .i64 k, .int .i64 (nc k)] 60)).cell? ⟨w.heap.size + 1, 0, none⟩ = some (.int .i64 0) := cell_of XR2.out 0
  have r1a : (w1.alloc (.cells #[.pointer (some ⟨g, 0, none⟩), .int .i64 p, .int .i64 k, .int .i64 (nc k)] 60)).cell? ⟨w.heap.size + 1, 1, none⟩ = some (.int .i64 0) := cell_of XR2.out 1
  have s0a := free_of XR2.out 0
  have s1a := free_of XR2.out 1
  have c0a : (w1.alloc (.cells #[.pointer (some ⟨g, 0, none⟩), .int .i64 p, .int .i64 k, .int .i64 (nc k)] 60)).cell? ⟨w1.heap.size, 0, none⟩ = some (.pointer (some ⟨g, 0, none⟩)) := cell_of XC2.out 0
  have c1a : (w1.alloc (.cells #[.pointer (some ⟨g, 0, none⟩), .int .i64 p, .int .i64 k, .int .i64 (nc k)] 60)).cell? ⟨w1.heap.size, 1, none⟩ = some (.int .i64 p) := cell_of XC2.out 1
  have c2a : (w1.alloc (.cells #[.pointer (some ⟨g, 0, none⟩), .int .i64 p, .int .i64 k, .int .i64 (nc k)] 60)).cell? ⟨w1.heap.size, 2, none⟩ = some (.int .i64 k) := cell_of XC2.out 2
  have c3a : (w1.alloc (.cells #[.pointer (some ⟨g, 0, none⟩), .int .i64 p, .int .i64 k, .int .i64 (nc k)] 60)).cell? ⟨w1.heap.size, 3, none⟩ = some (.int .i64 (nc k)) := cell_of XC2.out 3
  go_wp2_with fail
  refine (is_any g p k (i : Int) _).mono ?_
  rintro e w3 ⟨rfl, hb⟩
  have Fw3 := Lib.hid (show Fr No w w3 from Fr.then_below (by repeat (first | exact F2.out | apply Fr.drewN | apply Fr.drew | apply Fr.alloc)) hb)
  have XIw3 := Lib.hid ((Fr.of_below hb No).blk XI2.out (fun h => h))
  have XRw3 := Lib.hid ((Fr.of_below hb No).blk XR2.out (fun h => h))
  have XCw3 := Lib.hid ((Fr.of_below hb No).blk XC2.out (fun h => h))
  clear hb
  clear i0a i1a r0a r1a s0a s1a c0a c1a c2a c3a
  have i0b : w3.cell? ⟨w.heap.size, 0, none⟩ = some (.int .i64 f) := cell_of XIw3.out 0
  have i1b : w3.cell? ⟨w.heap.size, 1, none⟩ = some (.int .i64 n) := cell_of XIw3.out 1
  have r0b : w3.cell? ⟨w.heap.size + 1, 0, none⟩ = some (.int .i64 0) := cell_of XRw3.out 0
  have r1b : w3.cell? ⟨w.heap.size + 1, 1, none⟩ = some (.int .i64 0) := cell_of XRw3.out 1
  have s0b := free_of XRw3.out 0
  have s1b := free_of XRw3.out 1
  have c0b : w3.cell? ⟨w1.heap.size, 0, none⟩ = some (.pointer (some ⟨g, 0, none⟩)) := cell_of XCw3.out 0
  have c1b : w3.cell? ⟨w1.heap.size, 1, none⟩ = some (.int .i64 p) := cell_of XCw3.out 1
  have c2b : w3.cell? ⟨w1.heap.size, 2, none⟩ = some (.int .i64 k) := cell_of XCw3.out 2
  have c3b : w3.cell? ⟨w1.heap.size, 3, none⟩ = some (.int .i64 (nc k)) := cell_of XCw3.out 3
  rw [HI.out]
  go_wp2_with fail
  refine bodyPost_ret (v := .tuple #[.agg #[.int .i64 0, .int .i64 0], .bool false]) (by simp [results, Try.results16, go_sem, cell_of (set2_of XRw3.out (.int .i64 0) (.int .i64 0))]) rfl ⟨rfl, ?_⟩
  exact ((Fw3.out.setCell (p := ⟨w.heap.size + 1, 0, none⟩) (.inr (by simp)) _).setCell (p := ⟨w.heap.size + 1, 1, none⟩) (.inr (by simp)) _).below (Nat.le_refl _) (fun _ h => h.elim)

set_option maxRecDepth 100000 in
set_option maxHeartbeats 6400000 in
theorem give_no_2 (B g : Nat) (v : Value) (l : List Int) (p : Nat) (k : Int) (f n : Int) (hp : p < 64) (hk : 0 < nc k) (hl : 32 * p + 32 ≤ l.length) (i : Nat) (hi : i < nc k) (hh : 0 ≤ n ∧ (nc k : Int) ≤ n) (w : World) (hs : M w B g v l) :
    Calls Try.prog 16 #[.pointer (some ⟨g, 0, none⟩), .int .i64 p, .int .i64 k, .agg #[.int .i64 f, .int .i64 n], .int .i64 i] w (Same w (.tuple #[.agg #[.int .i64 0, .int .i64 0], .bool false])) := by
  have HO := Lib.hid (fun W (hW : Fr No w W) => open_true hp hk hl (hs.no hW))
  have HI := Lib.hid (show (decide ((0 : Int) ≤ (i : Int)) && decide ((i : Int) < (nc k : Int))) = true by simp; omega)
  have g1 : decide (n < 0) = false := by simp; omega
  have g2 : decide ((nc k : Int) ≤ n) = true := by simp; omega
  clear hs hp hk hl hi hh
  go_enter Try.func16, Try.ntmps16
  go_wp2_with fail
  have F0 := Lib.hid (((Fr.refl No w).alloc (.cells #[.int .i64 f, .int .i64 n] 29)).alloc (.cells #[.int .i64 0, .int .i64 0] 29))
  have XI0 := Lib.hid (heap2_of w (.cells #[.int .i64 f, .int .i64 n] 29) (.cells #[.int .i64 0, .int .i64 0] 29)).1
  have XR0 := Lib.hid (heap2_of w (.cells #[.int .i64 f, .int .i64 n] 29) (.cells #[.int .i64 0, .int .i64 0] 29)).2
  have Z0 := Lib.hid (show ((w.alloc (.cells #[.int .i64 f, .int .i64 n] 29)).alloc (.cells #[.int .i64 0, .int .i64 0] 29)).heap.size = w.heap.size + 2 by simp)
  generalize (w.alloc (.cells #[.int .i64 f, .int .i64 n] 29)).alloc (.cells #[.int .i64 0, .int .i64 0] 29) = w0 at F0 XI0 XR0 Z0 ⊢
  with_reducible refine (HO.out _ F0.out).mono ?_
  rintro e w1 ⟨rfl, hb1⟩
  have F1 := Lib.hid (F0.out.trans (Fr.of_below hb1 No) (fun i (h : No i) => h.elim))
  have HBS := Lib.hid (show w.heap.size + 2 ≤ w1.heap.size by have := hb1.size; have := Z0.out; omega)
  have XI1 := Lib.hid ((Fr.of_below hb1 No).blk XI0.out (fun h => h))
  have XR1 := Lib.hid ((Fr.of_below hb1 No).blk XR0.out (fun h => h))
  have XI2 := Lib.hid (alloc_of XI1.out (.cells #[.pointer (some ⟨g, 0, none⟩), .int .i64 p, .int .i64 k, .int .i64 (nc k)] 60))
  have XR2 := Lib.hid (alloc_of XR1.out (.cells #[.pointer (some ⟨g, 0, none⟩), .int .i64 p, .int .i64 k, .int .i64 (nc k)] 60))
  have XC2 := Lib.hid (heap_alloc_new w1 (.cells #[.pointer (some ⟨g, 0, none⟩), .int .i64 p, .int .i64 k, .int .i64 (nc k)] 60))
  have F2 := Lib.hid (F1.out.alloc (.cells #[.pointer (some ⟨g, 0, none⟩), .int .i64 p, .int .i64 k, .int .i64 (nc k)] 60))
  clear hb1 F0 XI0 XR0 Z0 XI1 XR1
  have i0a : (w1.alloc (.cells #[.pointer (some ⟨g, 0, none⟩), .int .i64 p, .int .i64 k, .int .i64 (nc k)] 60)).cell? ⟨w.heap.size, 0, none⟩ = some (.int .i64 f) := cell_of XI2.out 0
  have i1a : (w1.alloc (.cells #[.pointer (some ⟨g, 0, none⟩), .int .i64 p, .int .i64 k, .int .i64 (nc k)] 60)).cell? ⟨w.heap.size, 1, none⟩ = some (.int .i64 n) := cell_of XI2.out 1
  have r0a : (w1.alloc (.cells #[.pointer (some ⟨g, 0, none⟩), .int .i64 p, .int .i64 k, .int .i64 (nc k)] 60)).cell? ⟨w.heap.size + 1, 0, none⟩ = some (.int .i64 0) := cell_of XR2.out 0
  have r1a : (w1.alloc (.cells #[.pointer (some ⟨g, 0, none⟩), .int .i64 p, .int .i64 k, .int .i64 (nc k)] 60)).cell? ⟨w.heap.size + 1, 1, none⟩ = some (.int .i64 0) := cell_of XR2.out 1
  have s0a := free_of XR2.out 0
  have s1a := free_of XR2.out 1
  have c0a : (w1.alloc (.cells #[.pointer (some ⟨g, 0, none⟩), .int .i64 p, .int .i64 k, .int .i64 (nc k)] 60)).cell? ⟨w1.heap.size, 0, none⟩ = some (.pointer (some ⟨g, 0, none⟩)) := cell_of XC2.out 0
  have c1a : (w1.alloc (.cells #[.pointer (some ⟨g, 0, none⟩), .int .i64 p, .int .i64 k, .int .i64 (nc k)] 60)).cell? ⟨w1.heap.size, 1, none⟩ = some (.int .i64 p) := cell_of XC2.out 1
  have c2a : (w1.alloc (.cells #[.pointer (some ⟨g, 0, none⟩), .int .i64 p, .int .i64 k, .int .i64 (nc k)] 60)).cell? ⟨w1.heap.size, 2, none⟩ = some (.int .i64 k) := cell_of XC2.out 2
  have c3a : (w1.alloc (.cells #[.pointer (some ⟨g, 0, none⟩), .int .i64 p, .int .i64 k, .int .i64 (nc k)] 60)).cell? ⟨w1.heap.size, 3, none⟩ = some (.int .i64 (nc k)) := cell_of XC2.out 3
  go_wp2_with fail
  refine (is_any g p k (i : Int) _).mono ?_
  rintro e w3 ⟨rfl, hb⟩
  have Fw3 := Lib.hid (show Fr No w w3 from Fr.then_below (by repeat (first | exact F2.out | apply Fr.drewN | apply Fr.drew | apply Fr.alloc)) hb)
  have XIw3 := Lib.hid ((Fr.of_below hb No).blk XI2.out (fun h => h))
  have XRw3 := Lib.hid ((Fr.of_below hb No).blk XR2.out (fun h => h))
  have XCw3 := Lib.hid ((Fr.of_below hb No).blk XC2.out (fun h => h))
  clear hb
  clear i0a i1a r0a r1a s0a s1a c0a c1a c2a c3a
  have i0b : w3.cell? ⟨w.heap.size, 0, none⟩ = some (.int .i64 f) := cell_of XIw3.out 0
  have i1b : w3.cell? ⟨w.heap.size, 1, none⟩ = some (.int .i64 n) := cell_of XIw3.out 1
  have r0b : w3.cell? ⟨w.heap.size + 1, 0, none⟩ = some (.int .i64 0) := cell_of XRw3.out 0
  have r1b : w3.cell? ⟨w.heap.size + 1, 1, none⟩ = some (.int .i64 0) := cell_of XRw3.out 1
  have s0b := free_of XRw3.out 0
  have s1b := free_of XRw3.out 1
  have c0b : w3.cell? ⟨w1.heap.size, 0, none⟩ = some (.pointer (some ⟨g, 0, none⟩)) := cell_of XCw3.out 0
  have c1b : w3.cell? ⟨w1.heap.size, 1, none⟩ = some (.int .i64 p) := cell_of XCw3.out 1
  have c2b : w3.cell? ⟨w1.heap.size, 2, none⟩ = some (.int .i64 k) := cell_of XCw3.out 2
  have c3b : w3.cell? ⟨w1.heap.size, 3, none⟩ = some (.int .i64 (nc k)) := cell_of XCw3.out 3
  rw [HI.out]
  go_wp2_with fail
  refine bodyPost_ret (v := .tuple #[.agg #[.int .i64 0, .int .i64 0], .bool false]) (by simp [results, Try.results16, go_sem, cell_of (set2_of XRw3.out (.int .i64 0) (.int .i64 0))]) rfl ⟨rfl, ?_⟩
  exact ((Fw3.out.setCell (p := ⟨w.heap.size + 1, 0, none⟩) (.inr (by simp)) _).setCell (p := ⟨w.heap.size + 1, 1, none⟩) (.inr (by simp)) _).below (Nat.le_refl _) (fun _ h => h.elim)

set_option maxRecDepth 100000 in
set_option maxHeartbeats 6400000 in
theorem give_no_3 (B g : Nat) (v : Value) (l : List Int) (p : Nat) (k : Int) (f n : Int) (hp : p < 64) (hk : 0 < nc k) (hl : 32 * p + 32 ≤ l.length) (i : Nat) (hi : i < nc k) (hh : (0 ≤ n ∧ n < (nc k : Int)) ∧ f < 0) (w : World) (hs : M w B g v l) :
    Calls Try.prog 16 #[.pointer (some ⟨g, 0, none⟩), .int .i64 p, .int .i64 k, .agg #[.int .i64 f, .int .i64 n], .int .i64 i] w (Same w (.tuple #[.agg #[.int .i64 0, .int .i64 0], .bool false])) := by
  have HO := Lib.hid (fun W (hW : Fr No w W) => open_true hp hk hl (hs.no hW))
  have HI := Lib.hid (show (decide ((0 : Int) ≤ (i : Int)) && decide ((i : Int) < (nc k : Int))) = true by simp; omega)
  have g1 : decide (n < 0) = false := by simp; omega
  have g2 : decide ((nc k : Int) ≤ n) = false := by simp; omega
  have g3 : decide (f < 0) = true := by simp; omega
  clear hs hp hk hl hi hh
  go_enter Try.func16, Try.ntmps16
  go_wp2_with fail
  have F0 := Lib.hid (((Fr.refl No w).alloc (.cells #[.int .i64 f, .int .i64 n] 29)).alloc (.cells #[.int .i64 0, .int .i64 0] 29))
  have XI0 := Lib.hid (heap2_of w (.cells #[.int .i64 f, .int .i64 n] 29) (.cells #[.int .i64 0, .int .i64 0] 29)).1
  have XR0 := Lib.hid (heap2_of w (.cells #[.int .i64 f, .int .i64 n] 29) (.cells #[.int .i64 0, .int .i64 0] 29)).2
  have Z0 := Lib.hid (show ((w.alloc (.cells #[.int .i64 f, .int .i64 n] 29)).alloc (.cells #[.int .i64 0, .int .i64 0] 29)).heap.size = w.heap.size + 2 by simp)
  generalize (w.alloc (.cells #[.int .i64 f, .int .i64 n] 29)).alloc (.cells #[.int .i64 0, .int .i64 0] 29) = w0 at F0 XI0 XR0 Z0 ⊢
  with_reducible refine (HO.out _ F0.out).mono ?_
  rintro e w1 ⟨rfl, hb1⟩
  have F1 := Lib.hid (F0.out.trans (Fr.of_below hb1 No) (fun i (h : No i) => h.elim))
  have HBS := Lib.hid (show w.heap.size + 2 ≤ w1.heap.size by have := hb1.size; have := Z0.out; omega)
  have XI1 := Lib.hid ((Fr.of_below hb1 No).blk XI0.out (fun h => h))
  have XR1 := Lib.hid ((Fr.of_below hb1 No).blk XR0.out (fun h => h))
  have XI2 := Lib.hid (alloc_of XI1.out (.cells #[.pointer (some ⟨g, 0, none⟩), .int .i64 p, .int .i64 k, .int .i64 (nc k)] 60))
  have XR2 := Lib.hid (alloc_of XR1.out (.cells #[.pointer (some ⟨g, 0, none⟩), .int .i64 p, .int .i64 k, .int .i64 (nc k)] 60))
  have XC2 := Lib.hid (heap_alloc_new w1 (.cells #[.pointer (some ⟨g, 0, none⟩), .int .i64 p, .int .i64 k, .int .i64 (nc k)] 60))
  have F2 := Lib.hid (F1.out.alloc (.cells #[.pointer (some ⟨g, 0, none⟩), .int .i64 p, .int .i64 k, .int .i64 (nc k)] 60))
  clear hb1 F0 XI0 XR0 Z0 XI1 XR1
  have i0a : (w1.alloc (.cells #[.pointer (some ⟨g, 0, none⟩), .int .i64 p, .int .i64 k, .int .i64 (nc k)] 60)).cell? ⟨w.heap.size, 0, none⟩ = some (.int .i64 f) := cell_of XI2.out 0
  have i1a : (w1.alloc (.cells #[.pointer (some ⟨g, 0, none⟩), .int .i64 p, .int .i64 k, .int .i64 (nc k)] 60)).cell? ⟨w.heap.size, 1, none⟩ = some (.int .i64 n) := cell_of XI2.out 1
  have r0a : (w1.alloc (.cells #[.pointer (some ⟨g, 0, none⟩), .int .i64 p, .int .i64 k, .int .i64 (nc k)] 60)).cell? ⟨w.heap.size + 1, 0, none⟩ = some (.int .i64 0) := cell_of XR2.out 0
  have r1a : (w1.alloc (.cells #[.pointer (some ⟨g, 0, none⟩), .int .i64 p, .int .i64 k, .int .i64 (nc k)] 60)).cell? ⟨w.heap.size + 1, 1, none⟩ = some (.int .i64 0) := cell_of XR2.out 1
  have s0a := free_of XR2.out 0
  have s1a := free_of XR2.out 1
  have c0a : (w1.alloc (.cells #[.pointer (some ⟨g, 0, none⟩), .int .i64 p, .int .i64 k, .int .i64 (nc k)] 60)).cell? ⟨w1.heap.size, 0, none⟩ = some (.pointer (some ⟨g, 0, none⟩)) := cell_of XC2.out 0
  have c1a : (w1.alloc (.cells #[.pointer (some ⟨g, 0, none⟩), .int .i64 p, .int .i64 k, .int .i64 (nc k)] 60)).cell? ⟨w1.heap.size, 1, none⟩ = some (.int .i64 p) := cell_of XC2.out 1
  have c2a : (w1.alloc (.cells #[.pointer (some ⟨g, 0, none⟩), .int .i64 p, .int .i64 k, .int .i64 (nc k)] 60)).cell? ⟨w1.heap.size, 2, none⟩ = some (.int .i64 k) := cell_of XC2.out 2
  have c3a : (w1.alloc (.cells #[.pointer (some ⟨g, 0, none⟩), .int .i64 p, .int .i64 k, .int .i64 (nc k)] 60)).cell? ⟨w1.heap.size, 3, none⟩ = some (.int .i64 (nc k)) := cell_of XC2.out 3
  go_wp2_with fail
  refine (is_any g p k (i : Int) _).mono ?_
  rintro e w3 ⟨rfl, hb⟩
  have Fw3 := Lib.hid (show Fr No w w3 from Fr.then_below (by repeat (first | exact F2.out | apply Fr.drewN | apply Fr.drew | apply Fr.alloc)) hb)
  have XIw3 := Lib.hid ((Fr.of_below hb No).blk XI2.out (fun h => h))
  have XRw3 := Lib.hid ((Fr.of_below hb No).blk XR2.out (fun h => h))
  have XCw3 := Lib.hid ((Fr.of_below hb No).blk XC2.out (fun h => h))
  clear hb
  clear i0a i1a r0a r1a s0a s1a c0a c1a c2a c3a
  have i0b : w3.cell? ⟨w.heap.size, 0, none⟩ = some (.int .i64 f) := cell_of XIw3.out 0
  have i1b : w3.cell? ⟨w.heap.size, 1, none⟩ = some (.int .i64 n) := cell_of XIw3.out 1
  have r0b : w3.cell? ⟨w.heap.size + 1, 0, none⟩ = some (.int .i64 0) := cell_of XRw3.out 0
  have r1b : w3.cell? ⟨w.heap.size + 1, 1, none⟩ = some (.int .i64 0) := cell_of XRw3.out 1
  have s0b := free_of XRw3.out 0
  have s1b := free_of XRw3.out 1
  have c0b : w3.cell? ⟨w1.heap.size, 0, none⟩ = some (.pointer (some ⟨g, 0, none⟩)) := cell_of XCw3.out 0
  have c1b : w3.cell? ⟨w1.heap.size, 1, none⟩ = some (.int .i64 p) := cell_of XCw3.out 1
  have c2b : w3.cell? ⟨w1.heap.size, 2, none⟩ = some (.int .i64 k) := cell_of XCw3.out 2
  have c3b : w3.cell? ⟨w1.heap.size, 3, none⟩ = some (.int .i64 (nc k)) := cell_of XCw3.out 3
  rw [HI.out]
  go_wp2_with fail
  refine bodyPost_ret (v := .tuple #[.agg #[.int .i64 0, .int .i64 0], .bool false]) (by simp [results, Try.results16, go_sem, cell_of (set2_of XRw3.out (.int .i64 0) (.int .i64 0))]) rfl ⟨rfl, ?_⟩
  exact ((Fw3.out.setCell (p := ⟨w.heap.size + 1, 0, none⟩) (.inr (by simp)) _).setCell (p := ⟨w.heap.size + 1, 1, none⟩) (.inr (by simp)) _).below (Nat.le_refl _) (fun _ h => h.elim)

set_option maxRecDepth 100000 in
set_option maxHeartbeats 6400000 in
theorem give_no_4 (B g : Nat) (v : Value) (l : List Int) (p : Nat) (k : Int) (f n : Int) (hp : p < 64) (hk : 0 < nc k) (hl : 32 * p + 32 ≤ l.length) (i : Nat) (hi : i < nc k) (hh : (0 ≤ n ∧ n < (nc k : Int)) ∧ (nc k : Int) < f) (w : World) (hs : M w B g v l) :
    Calls Try.prog 16 #[.pointer (some ⟨g, 0, none⟩), .int .i64 p, .int .i64 k, .agg #[.int .i64 f, .int .i64 n], .int .i64 i] w (Same w (.tuple #[.agg #[.int .i64 0, .int .i64 0], .bool false])) := by
  have HO := Lib.hid (fun W (hW : Fr No w W) => open_true hp hk hl (hs.no hW))
  have HI := Lib.hid (show (decide ((0 : Int) ≤ (i : Int)) && decide ((i : Int) < (nc k : Int))) = true by simp; omega)
  have g1 : decide (n < 0) = false := by simp; omega
  have g2 : decide ((nc k : Int) ≤ n) = false := by simp; omega
  have g3 : decide (f < 0) = false := by simp; omega
  have g4 : decide ((nc k : Int) < f) = true := by simp; omega
  clear hs hp hk hl hi hh
  go_enter Try.func16, Try.ntmps16
  go_wp2_with fail
  have F0 := Lib.hid (((Fr.refl No w).alloc (.cells #[.int .i64 f, .int .i64 n] 29)).alloc (.cells #[.int .i64 0, .int .i64 0] 29))
  have XI0 := Lib.hid (heap2_of w (.cells #[.int .i64 f, .int .i64 n] 29) (.cells #[.int .i64 0, .int .i64 0] 29)).1
  have XR0 := Lib.hid (heap2_of w (.cells #[.int .i64 f, .int .i64 n] 29) (.cells #[.int .i64 0, .int .i64 0] 29)).2
  have Z0 := Lib.hid (show ((w.alloc (.cells #[.int .i64 f, .int .i64 n] 29)).alloc (.cells #[.int .i64 0, .int .i64 0] 29)).heap.size = w.heap.size + 2 by simp)
  generalize (w.alloc (.cells #[.int .i64 f, .int .i64 n] 29)).alloc (.cells #[.int .i64 0, .int .i64 0] 29) = w0 at F0 XI0 XR0 Z0 ⊢
  with_reducible refine (HO.out _ F0.out).mono ?_
  rintro e w1 ⟨rfl, hb1⟩
  have F1 := Lib.hid (F0.out.trans (Fr.of_below hb1 No) (fun i (h : No i) => h.elim))
  have HBS := Lib.hid (show w.heap.size + 2 ≤ w1.heap.size by have := hb1.size; have := Z0.out; omega)
  have XI1 := Lib.hid ((Fr.of_below hb1 No).blk XI0.out (fun h => h))
  have XR1 := Lib.hid ((Fr.of_below hb1 No).blk XR0.out (fun h => h))
  have XI2 := Lib.hid (alloc_of XI1.out (.cells #[.pointer (some ⟨g, 0, none⟩), .int .i64 p, .int .i64 k, .int .i64 (nc k)] 60))
  have XR2 := Lib.hid (alloc_of XR1.out (.cells #[.pointer (some ⟨g, 0, none⟩), .int .i64 p, .int .i64 k, .int .i64 (nc k)] 60))
  have XC2 := Lib.hid (heap_alloc_new w1 (.cells #[.pointer (some ⟨g, 0, none⟩), .int .i64 p, .int .i64 k, .int .i64 (nc k)] 60))
  have F2 := Lib.hid (F1.out.alloc (.cells #[.pointer (some ⟨g, 0, none⟩), .int .i64 p, .int .i64 k, .int .i64 (nc k)] 60))
  clear hb1 F0 XI0 XR0 Z0 XI1 XR1
  have i0a : (w1.alloc (.cells #[.pointer (some ⟨g, 0, none⟩), .int .i64 p, .int .i64 k, .int .i64 (nc k)] 60)).cell? ⟨w.heap.size, 0, none⟩ = some (.int .i64 f) := cell_of XI2.out 0
  have i1a : (w1.alloc (.cells #[.pointer (some ⟨g, 0, none⟩), .int .i64 p, .int .i64 k, .int .i64 (nc k)] 60)).cell? ⟨w.heap.size, 1, none⟩ = some (.int .i64 n) := cell_of XI2.out 1
  have r0a : (w1.alloc (.cells #[.pointer (some ⟨g, 0, none⟩), .int .i64 p, .int .i64 k, .int .i64 (nc k)] 60)).cell? ⟨w.heap.size + 1, 0, none⟩ = some (.int .i64 0) := cell_of XR2.out 0
  have r1a : (w1.alloc (.cells #[.pointer (some ⟨g, 0, none⟩), .int .i64 p, .int .i64 k, .int .i64 (nc k)] 60)).cell? ⟨w.heap.size + 1, 1, none⟩ = some (.int .i64 0) := cell_of XR2.out 1
  have s0a := free_of XR2.out 0
  have s1a := free_of XR2.out 1
  have c0a : (w1.alloc (.cells #[.pointer (some ⟨g, 0, none⟩), .int .i64 p, .int .i64 k, .int .i64 (nc k)] 60)).cell? ⟨w1.heap.size, 0, none⟩ = some (.pointer (some ⟨g, 0, none⟩)) := cell_of XC2.out 0
  have c1a : (w1.alloc (.cells #[.pointer (some ⟨g, 0, none⟩), .int .i64 p, .int .i64 k, .int .i64 (nc k)] 60)).cell? ⟨w1.heap.size, 1, none⟩ = some (.int .i64 p) := cell_of XC2.out 1
  have c2a : (w1.alloc (.cells #[.pointer (some ⟨g, 0, none⟩), .int .i64 p, .int .i64 k, .int .i64 (nc k)] 60)).cell? ⟨w1.heap.size, 2, none⟩ = some (.int .i64 k) := cell_of XC2.out 2
  have c3a : (w1.alloc (.cells #[.pointer (some ⟨g, 0, none⟩), .int .i64 p, .int .i64 k, .int .i64 (nc k)] 60)).cell? ⟨w1.heap.size, 3, none⟩ = some (.int .i64 (nc k)) := cell_of XC2.out 3
  go_wp2_with fail
  refine (is_any g p k (i : Int) _).mono ?_
  rintro e w3 ⟨rfl, hb⟩
  have Fw3 := Lib.hid (show Fr No w w3 from Fr.then_below (by repeat (first | exact F2.out | apply Fr.drewN | apply Fr.drew | apply Fr.alloc)) hb)
  have XIw3 := Lib.hid ((Fr.of_below hb No).blk XI2.out (fun h => h))
  have XRw3 := Lib.hid ((Fr.of_below hb No).blk XR2.out (fun h => h))
  have XCw3 := Lib.hid ((Fr.of_below hb No).blk XC2.out (fun h => h))
  clear hb
  clear i0a i1a r0a r1a s0a s1a c0a c1a c2a c3a
  have i0b : w3.cell? ⟨w.heap.size, 0, none⟩ = some (.int .i64 f) := cell_of XIw3.out 0
  have i1b : w3.cell? ⟨w.heap.size, 1, none⟩ = some (.int .i64 n) := cell_of XIw3.out 1
  have r0b : w3.cell? ⟨w.heap.size + 1, 0, none⟩ = some (.int .i64 0) := cell_of XRw3.out 0
  have r1b : w3.cell? ⟨w.heap.size + 1, 1, none⟩ = some (.int .i64 0) := cell_of XRw3.out 1
  have s0b := free_of XRw3.out 0
  have s1b := free_of XRw3.out 1
  have c0b : w3.cell? ⟨w1.heap.size, 0, none⟩ = some (.pointer (some ⟨g, 0, none⟩)) := cell_of XCw3.out 0
  have c1b : w3.cell? ⟨w1.heap.size, 1, none⟩ = some (.int .i64 p) := cell_of XCw3.out 1
  have c2b : w3.cell? ⟨w1.heap.size, 2, none⟩ = some (.int .i64 k) := cell_of XCw3.out 2
  have c3b : w3.cell? ⟨w1.heap.size, 3, none⟩ = some (.int .i64 (nc k)) := cell_of XCw3.out 3
  rw [HI.out]
  go_wp2_with fail
  refine bodyPost_ret (v := .tuple #[.agg #[.int .i64 0, .int .i64 0], .bool false]) (by simp [results, Try.results16, go_sem, cell_of (set2_of XRw3.out (.int .i64 0) (.int .i64 0))]) rfl ⟨rfl, ?_⟩
  exact ((Fw3.out.setCell (p := ⟨w.heap.size + 1, 0, none⟩) (.inr (by simp)) _).setCell (p := ⟨w.heap.size + 1, 1, none⟩) (.inr (by simp)) _).below (Nat.le_refl _) (fun _ h => h.elim)

def GivePost (B g : Nat) (v : Value) (l' : List Int) (i n : Int) (w : World) (e : Ending) (w' : World) : Prop :=
  e = .returned (.tuple #[.agg #[.int .i64 i, .int .i64 (n + 1)], .bool true]) ∧ M w' B g v l' ∧ Fr (Foot g v) w w'

set_option maxRecDepth 100000 in
set_option maxHeartbeats 6400000 in
theorem give_yes (B g : Nat) (v : Value) (l : List Int) (p : Nat) (k : Int) (f n : Int) (hp : p < 64) (hk : 0 < nc k) (hl : 32 * p + 32 ≤ l.length) (i : Nat) (hi : i < nc k) (hh : (0 ≤ n ∧ n < (nc k : Int)) ∧ 0 ≤ f ∧ f ≤ (nc k : Int)) (w : World) (hs : M w B g v l) :
    Calls Try.prog 16 #[.pointer (some ⟨g, 0, none⟩), .int .i64 p, .int .i64 k, .agg #[.int .i64 f, .int .i64 n], .int .i64 i] w (GivePost B g v (l.set (32 * p + i * sz k) (-1 - f)) i n w) := by
  have HO := Lib.hid (fun W (hW : Fr No w W) => open_true hp hk hl (hs.no hW))
  have HI := Lib.hid (show (decide ((0 : Int) ≤ (i : Int)) && decide ((i : Int) < (nc k : Int))) = true by simp; omega)
  have hcn := nc_le k
  have HK := Lib.hid (fun W (hW : Fr No w W) => link_any B g v l p k i f hp hi hl (by omega) (by omega) W (hs.no hW))
  have NB := Lib.hid (fun j hj => (hs.foot_lt j hj).2)
  have g1 : decide (n < 0) = false := by simp; omega
  have g2 : decide ((nc k : Int) ≤ n) = false := by simp; omega
  have g3 : decide (f < 0) = false := by simp; omega
  have g4 : decide ((nc k : Int) < f) = false := by simp; omega
  have i1 : 0 ≤ n := hh.1.1
  have i2 : n ≤ 16 := by omega
  clear hs hp hk hl hi hh hcn
  go_enter Try.func16, Try.ntmps16
  go_wp2_with fail
  have F0 := Lib.hid (((Fr.refl No w).alloc (.cells #[.int .i64 f, .int .i64 n] 29)).alloc (.cells #[.int .i64 0, .int .i64 0] 29))
  have XI0 := Lib.hid (heap2_of w (.cells #[.int .i64 f, .int .i64 n] 29) (.cells #[.int .i64 0, .int .i64 0] 29)).1
  have XR0 := Lib.hid (heap2_of w (.cells #[.int .i64 f, .int .i64 n] 29) (.cells #[.int .i64 0, .int .i64 0] 29)).2
  have Z0 := Lib.hid (show ((w.alloc (.cells #[.int .i64 f, .int .i64 n] 29)).alloc (.cells #[.int .i64 0, .int .i64 0] 29)).heap.size = w.heap.size + 2 by simp)
  generalize (w.alloc (.cells #[.int .i64 f, .int .i64 n] 29)).alloc (.cells #[.int .i64 0, .int .i64 0] 29) = w0 at F0 XI0 XR0 Z0 ⊢
  with_reducible refine (HO.out _ F0.out).mono ?_
  rintro e w1 ⟨rfl, hb1⟩
  have F1 := Lib.hid (F0.out.trans (Fr.of_below hb1 No) (fun i (h : No i) => h.elim))
  have HBS := Lib.hid (show w.heap.size + 2 ≤ w1.heap.size by have := hb1.size; have := Z0.out; omega)
  have XI1 := Lib.hid ((Fr.of_below hb1 No).blk XI0.out (fun h => h))
  have XR1 := Lib.hid ((Fr.of_below hb1 No).blk XR0.out (fun h => h))
  have XI2 := Lib.hid (alloc_of XI1.out (.cells #[.pointer (some ⟨g, 0, none⟩), .int .i64 p, .int .i64 k, .int .i64 (nc k)] 60))
  have XR2 := Lib.hid (alloc_of XR1.out (.cells #[.pointer (some ⟨g, 0, none⟩), .int .i64 p, .int .i64 k, .int .i64 (nc k)] 60))
  have XC2 := Lib.hid (heap_alloc_new w1 (.cells #[.pointer (some ⟨g, 0, none⟩), .int .i64 p, .int .i64 k, .int .i64 (nc k)] 60))
  have F2 := Lib.hid (F1.out.alloc (.cells #[.pointer (some ⟨g, 0, none⟩), .int .i64 p, .int .i64 k, .int .i64 (nc k)] 60))
  clear hb1 F0 XI0 XR0 Z0 XI1 XR1
  have i0a : (w1.alloc (.cells #[.pointer (some ⟨g, 0, none⟩), .int .i64 p, .int .i64 k, .int .i64 (nc k)] 60)).cell? ⟨w.heap.size, 0, none⟩ = some (.int .i64 f) := cell_of XI2.out 0
  have i1a : (w1.alloc (.cells #[.pointer (some ⟨g, 0, none⟩), .int .i64 p, .int .i64 k, .int .i64 (nc k)] 60)).cell? ⟨w.heap.size, 1, none⟩ = some (.int .i64 n) := cell_of XI2.out 1
  have r0a : (w1.alloc (.cells #[.pointer (some ⟨g, 0, none⟩), .int .i64 p, .int .i64 k, .int .i64 (nc k)] 60)).cell? ⟨w.heap.size + 1, 0, none⟩ = some (.int .i64 0) := cell_of XR2.out 0
  have r1a : (w1.alloc (.cells #[.pointer (some ⟨g, 0, none⟩), .int .i64 p, .int .i64 k, .int .i64 (nc k)] 60)).cell? ⟨w.heap.size + 1, 1, none⟩ = some (.int .i64 0) := cell_of XR2.out 1
  have s0a := free_of XR2.out 0
  have s1a := free_of XR2.out 1
  have c0a : (w1.alloc (.cells #[.pointer (some ⟨g, 0, none⟩), .int .i64 p, .int .i64 k, .int .i64 (nc k)] 60)).cell? ⟨w1.heap.size, 0, none⟩ = some (.pointer (some ⟨g, 0, none⟩)) := cell_of XC2.out 0
  have c1a : (w1.alloc (.cells #[.pointer (some ⟨g, 0, none⟩), .int .i64 p, .int .i64 k, .int .i64 (nc k)] 60)).cell? ⟨w1.heap.size, 1, none⟩ = some (.int .i64 p) := cell_of XC2.out 1
  have c2a : (w1.alloc (.cells #[.pointer (some ⟨g, 0, none⟩), .int .i64 p, .int .i64 k, .int .i64 (nc k)] 60)).cell? ⟨w1.heap.size, 2, none⟩ = some (.int .i64 k) := cell_of XC2.out 2
  have c3a : (w1.alloc (.cells #[.pointer (some ⟨g, 0, none⟩), .int .i64 p, .int .i64 k, .int .i64 (nc k)] 60)).cell? ⟨w1.heap.size, 3, none⟩ = some (.int .i64 (nc k)) := cell_of XC2.out 3
  go_wp2_with fail
  refine (is_any g p k (i : Int) _).mono ?_
  rintro e w3 ⟨rfl, hb⟩
  have Fw3 := Lib.hid (show Fr No w w3 from Fr.then_below (by repeat (first | exact F2.out | apply Fr.drewN | apply Fr.drew | apply Fr.alloc)) hb)
  have XIw3 := Lib.hid ((Fr.of_below hb No).blk XI2.out (fun h => h))
  have XRw3 := Lib.hid ((Fr.of_below hb No).blk XR2.out (fun h => h))
  have XCw3 := Lib.hid ((Fr.of_below hb No).blk XC2.out (fun h => h))
  clear hb
  clear i0a i1a r0a r1a s0a s1a c0a c1a c2a c3a
  have i0b : w3.cell? ⟨w.heap.size, 0, none⟩ = some (.int .i64 f) := cell_of XIw3.out 0
  have i1b : w3.cell? ⟨w.heap.size, 1, none⟩ = some (.int .i64 n) := cell_of XIw3.out 1
  have r0b : w3.cell? ⟨w.heap.size + 1, 0, none⟩ = some (.int .i64 0) := cell_of XRw3.out 0
  have r1b : w3.cell? ⟨w.heap.size + 1, 1, none⟩ = some (.int .i64 0) := cell_of XRw3.out 1
  have s0b := free_of XRw3.out 0
  have s1b := free_of XRw3.out 1
  have c0b : w3.cell? ⟨w1.heap.size, 0, none⟩ = some (.pointer (some ⟨g, 0, none⟩)) := cell_of XCw3.out 0
  have c1b : w3.cell? ⟨w1.heap.size, 1, none⟩ = some (.int .i64 p) := cell_of XCw3.out 1
  have c2b : w3.cell? ⟨w1.heap.size, 2, none⟩ = some (.int .i64 k) := cell_of XCw3.out 2
  have c3b : w3.cell? ⟨w1.heap.size, 3, none⟩ = some (.int .i64 (nc k)) := cell_of XCw3.out 3
  rw [HI.out]
  go_wp2_with fail
  refine (HK.out _ (by repeat (first | exact Fw3.out | apply Fr.drewN | apply Fr.drew | apply Fr.alloc))).mono ?_
  rintro e w4 ⟨rfl, hm4, hf4⟩
  have M4 := Lib.hid hm4
  have F4 := Lib.hid (show Fr (Foot g v) w w4 from Fr.trans (Fr.mono (S := No) (by repeat (first | exact Fw3.out | apply Fr.drewN | apply Fr.drew | apply Fr.alloc)) (fun _ h => h.elim)) hf4 (fun i hi => .inl hi))
  have NR : Hid (¬ Foot g v (w.heap.size + 1)) := Lib.hid (fun h => by have := NB.out _ h; omega)
  have XI4 := Lib.hid (hf4.blk XIw3.out (fun h => by have := NB.out _ h; omega))
  have XR4 := Lib.hid (hf4.blk XRw3.out NR.out)
  clear hm4 hf4
  have i1q : w4.cell? ⟨w.heap.size, 1, none⟩ = some (.int .i64 n) := cell_of XI4.out 1
  have r0q : w4.cell? ⟨w.heap.size + 1, 0, none⟩ = some (.int .i64 0) := cell_of XR4.out 0
  have r1q : w4.cell? ⟨w.heap.size + 1, 1, none⟩ = some (.int .i64 0) := cell_of XR4.out 1
  have s0q := free_of XR4.out 0
  have s1q := free_of XR4.out 1
  go_wp2_with fail
  refine bodyPost_ret (v := .tuple #[.agg #[.int .i64 i, .int .i64 (n + 1)], .bool true]) (by simp [results, Try.results16, go_sem, cell_of (set2_of XR4.out (.int .i64 i) (.int .i64 (n + 1)))]) rfl ⟨rfl, ?_, ?_⟩
  · exact M4.out.fr (((Fr.refl (fun j => j = w.heap.size + 1) w4).setCell (p := ⟨w.heap.size + 1, 0, none⟩) (.inl rfl) _).setCell (p := ⟨w.heap.size + 1, 1, none⟩) (.inl rfl) _) (fun j hj e => NR.out (e ▸ hj))
  · exact (F4.out.setCell (p := ⟨w.heap.size + 1, 0, none⟩) (.inr (by simp)) _).setCell (p := ⟨w.heap.size + 1, 1, none⟩) (.inr (by simp)) _

/-- may a cell be given back? -/
def GiveOk (l : List Int) (p k f n i : Int) : Prop := Op l p k ∧ (0 ≤ i ∧ i < (nc k : Int)) ∧ (0 ≤ n ∧ n < (nc k : Int)) ∧ 0 ≤ f ∧ f ≤ (nc k : Int)

theorem give_no (B g : Nat) (v : Value) (l : List Int) (p k f n i : Int) (hh : ¬ GiveOk l p k f n i) (w : World) (hs : M w B g v l) :
    Calls Try.prog 16 #[.pointer (some ⟨g, 0, none⟩), .int .i64 p, .int .i64 k, .agg #[.int .i64 f, .int .i64 n], .int .i64 i] w (Same w (.tuple #[.agg #[.int .i64 0, .int .i64 0], .bool false])) := by
  by_cases ho : Op l p k
  · obtain ⟨h1, h2, h3, h4⟩ := id ho
    obtain ⟨q, rfl⟩ := Int.eq_ofNat_of_zero_le h1
    have hp : q < 64 := by omega
    have hl : 32 * q + 32 ≤ l.length := by omega
    by_cases hi : 0 ≤ i ∧ i < (nc k : Int)
    · obtain ⟨j, rfl⟩ := Int.eq_ofNat_of_zero_le hi.1
      by_cases c1 : n < 0
      · exact give_no_1 B g v l q k f n hp h3 hl j (by omega) c1 w hs
      by_cases c2 : (nc k : Int) ≤ n
      · exact give_no_2 B g v l q k f n hp h3 hl j (by omega) ⟨by omega, c2⟩ w hs
      by_cases c3 : f < 0
      · exact give_no_3 B g v l q k f n hp h3 hl j (by omega) ⟨⟨by omega, by omega⟩, c3⟩ w hs
      by_cases c4 : (nc k : Int) < f
      · exact give_no_4 B g v l q k f n hp h3 hl j (by omega) ⟨⟨by omega, by omega⟩, c4⟩ w hs
      · exact absurd ⟨ho, hi, ⟨by omega, by omega⟩, by omega, by omega⟩ hh
    · exact give_no_is B g v l q k f n hp h3 hl i (by rw [Bool.and_eq_false_iff, decide_eq_false_iff_not, decide_eq_false_iff_not]; omega) w hs
  · exact give_no_page B g v l p k f n i ho w hs

end Go.Proofs.Ytbndmcblkfaheaa.Chain
