/- Proved: what the laws of package scutagelaw08 first ask answers true. -/
import Derived.Test.YtbndmcblkfaheaaChainLaw2
namespace Go.Proofs.Ytbndmcblkfaheaa.Chain
open Go.RowKit Go.Proofs.Ytbndmcblkfaheaa.H Go.Proofs.Ytbndmcblkfaheaa.Words Go.Proofs.Ytbndmcblkfaheaa.Mem
set_option linter.unusedVariables false
set_option linter.unusedSimpArgs false

def l0 : List Int := List.replicate 64 0
def l1 : List Int := bl l0 1 4 2
def l3 : List Int := l1.set 32 (-2)
set_option maxRecDepth 100000 in
theorem facts : l1[32]? = some (-2) ∧ l1[48]? = some (-3) ∧ lk l1 1 4 0 = some 1 ∧ goL l3 1 4 2 0 [] = some [0, 1] ∧ l0.length = 64 ∧ l1.length = 64 ∧ l3.length = 64 := by
  refine ⟨by decide +kernel, by decide +kernel, by decide +kernel, by decide +kernel, by decide +kernel, by decide +kernel, by decide +kernel⟩

section
variable {B g : Nat} {v : Value} {w : World}
theorem a_build (hs : M w B g v l0) : Calls Try.prog 10 #[.pointer (some ⟨g, 0, none⟩), .int .i64 1, .int .i64 4] w (BuildPost B g v l1 2 w) :=
  build_yes B g v l0 1 4 (by decide) (by decide) (by rw [facts.2.2.2.2.1]; decide) w hs
theorem a_load1 (hs : M w B g v l1) : Calls Try.prog 25 #[.pointer (some ⟨g, 0, none⟩), .int .i64 32] w (Quiet w (.tuple #[.int .i64 (-2), .bool true])) :=
  load_yes B g v l1 32 (-2) w hs facts.1
theorem a_load2 (hs : M w B g v l1) : Calls Try.prog 25 #[.pointer (some ⟨g, 0, none⟩), .int .i64 48] w (Quiet w (.tuple #[.int .i64 (-3), .bool true])) :=
  load_yes B g v l1 48 (-3) w hs facts.2.1
theorem a_take (hs : M w B g v l1) : Calls Try.prog 12 #[.pointer (some ⟨g, 0, none⟩), .int .i64 1, .int .i64 4, .agg #[.int .i64 0, .int .i64 2]] w (Same w (.tuple #[.int .i64 0, .agg #[.int .i64 1, .int .i64 1], .bool true])) :=
  take_yes B g v l1 1 4 0 2 (by decide) (by decide) (by rw [facts.2.2.2.2.2.1]; decide) (by decide) (by decide) (by decide) 1 facts.2.2.1 w hs
theorem a_give (hs : M w B g v l1) : Calls Try.prog 16 #[.pointer (some ⟨g, 0, none⟩), .int .i64 1, .int .i64 4, .agg #[.int .i64 1, .int .i64 1], .int .i64 0] w (fun e w' => e = .returned (.tuple #[.agg #[.int .i64 0, .int .i64 2], .bool true]) ∧ M w' B g v l3 ∧ Fr (Foot g v) w w') :=
  give_yes B g v l1 1 4 1 1 (by decide) (by decide) (by rw [facts.2.2.2.2.2.1]; decide) 0 (by decide) (by decide) w hs
theorem a_all (hs : M w B g v l3) : Calls Try.prog 17 #[.pointer (some ⟨g, 0, none⟩), .int .i64 1, .int .i64 4, .agg #[.int .i64 0, .int .i64 2]] w (AllPost (some [0, 1]) w) := by
  have h := all_go B g v l3 1 4 0 2 (by decide) (by decide) (by rw [facts.2.2.2.2.2.2]; decide) (by decide) w hs
  rw [facts.2.2.2.1] at h
  exact h
end

theorem rd_two (w : World) (x y : Int) (t : TypeId) : Rd (w.alloc (.cells #[.int .i64 x, .int .i64 y] t)) (.slice (some ⟨w.heap.size, 0, none⟩) 2 2) 2 1 (Nums.ints [x, y]) := by
  refine ⟨rfl, Nums.ints_one _, .inr ⟨⟨w.heap.size, 0, none⟩, 2, rfl, Nat.le_refl _, fun j v hj => ?_⟩⟩
  match j, hj with
  | 0, hj => exact (cell_of (heap_alloc_new w _) 0).trans hj
  | 1, hj => exact (cell_of (heap_alloc_new w _) 1).trans hj

set_option maxRecDepth 100000 in
set_option maxHeartbeats 12800000 in
theorem alive_any (w : World) : Calls Try.prog 6 #[] w (Same w (.bool true)) := by
  go_enter Try.func6, Try.ntmps6
  go_wp2_with fail
  with_reducible refine (Mem.new_any 64 64 (by decide) w).mono ?_
  rintro x1 w1 ⟨g, v, rfl, hm1, hb1⟩
  have M1 : Hid (M w1 w.heap.size g v l0) := Lib.hid hm1
  have B1 := Lib.hid hb1
  clear hm1 hb1
  go_wp2_with fail
  with_reducible refine (a_build M1.out).mono ?_
  rintro x2 w2 ⟨rfl, hm2, hf2⟩
  have M2 := Lib.hid hm2
  have B2 := Lib.hid (B1.out.trans (M1.out.below hf2 B1.out.size))
  clear hm2 hf2
  go_wp2_with fail
  have XA := Lib.hid (heap_alloc_new w2 (.cells #[.int .i64 0, .int .i64 2] 29))
  have FA := Lib.hid (Fr.alloc (Fr.refl No w2) (.cells #[.int .i64 0, .int .i64 2] 29))
  have ZA := Lib.hid (show (w2.alloc (.cells #[.int .i64 0, .int .i64 2] 29)).heap.size = w2.heap.size + 1 by simp)
  generalize w2.alloc (.cells #[.int .i64 0, .int .i64 2] 29) = w3 at XA FA ZA ⊢
  with_reducible refine (a_load1 (M2.out.no FA.out)).mono ?_
  rintro x4 w4 ⟨rfl, q4, rfl⟩
  go_wp2_with fail
  with_reducible refine (a_load2 (M2.out.no (FA.out.drewN _))).mono ?_
  rintro x5 w5 ⟨rfl, q5, hw5⟩
  have F5 := Lib.hid (show Fr No w2 w5 from by rw [hw5]; exact (FA.out.drewN _).drewN _)
  have XA5 := Lib.hid (show w5.heap[w2.heap.size]? = some (.cells #[.int .i64 0, .int .i64 2] 29 (0, 0)) from by rw [hw5]; exact XA.out)
  have a0 : w5.cell? ⟨w2.heap.size, 0, none⟩ = some (.int .i64 0) := cell_of XA5.out 0
  have a1 : w5.cell? ⟨w2.heap.size, 1, none⟩ = some (.int .i64 2) := cell_of XA5.out 1
  clear hw5 XA FA ZA
  go_wp2_with fail
  with_reducible refine (a_take (M2.out.no F5.out)).mono ?_
  rintro x6 w6 ⟨rfl, hb6⟩
  have F6 := Lib.hid (F5.out.trans (Fr.of_below hb6 No) (fun i (h : No i) => h.elim))
  have XA6 := Lib.hid ((Fr.of_below hb6 No).blk XA5.out (fun h => h))
  clear hb6 a0 a1 XA5
  have XB7 := Lib.hid (heap_alloc_new w6 (.cells #[.int .i64 1, .int .i64 1] 29))
  have XA7 := Lib.hid (alloc_of XA6.out (.cells #[.int .i64 1, .int .i64 1] 29))
  have F7 := Lib.hid (F6.out.alloc (.cells #[.int .i64 1, .int .i64 1] 29))
  have b0 : (w6.alloc (.cells #[.int .i64 1, .int .i64 1] 29)).cell? ⟨w6.heap.size, 0, none⟩ = some (.int .i64 1) := cell_of XB7.out 0
  have b1 : (w6.alloc (.cells #[.int .i64 1, .int .i64 1] 29)).cell? ⟨w6.heap.size, 1, none⟩ = some (.int .i64 1) := cell_of XB7.out 1
  go_wp2_with fail
  generalize hw7 : w6.alloc (.cells #[.int .i64 1, .int .i64 1] 29) = w7 at XB7 XA7 F7 b0 b1 ⊢
  with_reducible refine (a_give (M2.out.no F7.out)).mono ?_
  rintro x8 w8 ⟨rfl, hm8, hf8⟩
  have M8 := Lib.hid hm8
  have lf := fun k hk => (M2.out.foot_lt k hk).2
  have XA8 := Lib.hid (hf8.blk XA7.out (fun h => by have := lf _ h; omega))
  have XB8 := Lib.hid (hf8.blk XB7.out (fun h => by have := lf _ h; have := F6.out.size; omega))
  have B8 := Lib.hid (show Below w.heap.size w w8 from (B2.out.trans (F7.out.below B2.out.size (fun _ h => h.elim))).trans ((M2.out.no F7.out).below hf8 (by have := B2.out.size; have := F7.out.size; omega)))
  clear hm8 hf8 lf XA7 XB7 b0 b1 hw7
  have XC9 := Lib.hid (heap_alloc_new w8 (.cells #[.int .i64 0, .int .i64 2] 29))
  have XA9 := Lib.hid (alloc_of XA8.out (.cells #[.int .i64 0, .int .i64 2] 29))
  have XB9 := Lib.hid (alloc_of XB8.out (.cells #[.int .i64 0, .int .i64 2] 29))
  have F9 := Lib.hid (Fr.alloc (Fr.refl No w8) (.cells #[.int .i64 0, .int .i64 2] 29))
  have c0 : (w8.alloc (.cells #[.int .i64 0, .int .i64 2] 29)).cell? ⟨w8.heap.size, 0, none⟩ = some (.int .i64 0) := cell_of XC9.out 0
  have c1 : (w8.alloc (.cells #[.int .i64 0, .int .i64 2] 29)).cell? ⟨w8.heap.size, 1, none⟩ = some (.int .i64 2) := cell_of XC9.out 1
  go_wp2_with fail
  generalize hw9 : w8.alloc (.cells #[.int .i64 0, .int .i64 2] 29) = w9 at XC9 XA9 XB9 F9 c0 c1 ⊢
  with_reducible refine (a_all (M8.out.no F9.out)).mono ?_
  rintro x10 w10 ⟨v10, rfl, ho10, hb10⟩
  obtain ⟨A10, d10, rfl, _⟩ := ho10.slice
  have F10 := Lib.hid (show Fr No w8 w10 from F9.out.trans (Fr.of_below hb10 No) (fun i (h : No i) => h.elim))
  have XA10 := Lib.hid ((Fr.of_below hb10 No).blk XA9.out (fun h => h))
  have XB10 := Lib.hid ((Fr.of_below hb10 No).blk XB9.out (fun h => h))
  have R10 := Lib.hid ho10.rd
  have a0 : w10.cell? ⟨w2.heap.size, 0, none⟩ = some (.int .i64 0) := cell_of XA10.out 0
  have a1 : w10.cell? ⟨w2.heap.size, 1, none⟩ = some (.int .i64 2) := cell_of XA10.out 1
  have b0 : w10.cell? ⟨w6.heap.size, 0, none⟩ = some (.int .i64 1) := cell_of XB10.out 0
  have b1 : w10.cell? ⟨w6.heap.size, 1, none⟩ = some (.int .i64 1) := cell_of XB10.out 1
  clear ho10 hb10 c0 c1 hw9
  go_wp2_with fail
  with_reducible refine (Nums.same_any A10 (some ⟨w10.heap.size, 0, none⟩) 2 2 d10 2 [0, 1] rfl rfl _ (R10.out.fr (S := No) (by repeat (first | exact Fr.refl _ _ | apply Fr.drewN | apply Fr.drew | apply Fr.alloc)) (fun _ _ h => h)) (rd_two w10 0 1 _) (by decide)).mono ?_
  rintro x11 w11 ⟨rfl, q11, rfl⟩
  go_wp2_with fail
  go_ret
  exact ⟨rfl, B8.out.trans (((F10.out.alloc _).drewN q11).below B8.out.size (fun _ h => h.elim))⟩

end Go.Proofs.Ytbndmcblkfaheaa.Chain
