/- Proved: the law ChainBuilds of package scutagelaw08 over any arguments. -/
import Derived.Test.YtbndmcblkfaheaaChainPure
namespace Go.Proofs.Ytbndmcblkfaheaa.Chain
open Go.RowKit Go.Proofs.Ytbndmcblkfaheaa.H Go.Proofs.Ytbndmcblkfaheaa.Words Go.Proofs.Ytbndmcblkfaheaa.Mem
set_option linter.unusedVariables false
set_option linter.unusedSimpArgs false

theorem fill0 {B g : Nat} {v : Value} {l : List Int} {n : Nat} {x : Int} (hl : n = l.length) {w : World} (hs : M w B g v l) :
    Calls Try.prog 19 #[.pointer (some ⟨g, 0, none⟩), .int .i64 0, .int .i64 n, .int .i64 x] w (FillPost B g v (fillL l 0 n x) true w) :=
  fill_yes B g v l 0 n x w hs (by omega)

theorem filled_len (n : Nat) (x : Int) : (fillL (List.replicate n 0) 0 n x).length = n := by rw [fillL_length _ _ _ _ (by simp)]; simp
theorem filled_at (n : Nat) (x : Int) (i : Nat) (h : i < n) : (fillL (List.replicate n 0) 0 n x)[i]? = some x := by rw [fillL_at _ _ _ _ (by simp), if_pos ⟨by omega, by omega⟩]

attribute [local irreducible] nc sz bl fillL

set_option maxRecDepth 100000 in
set_option maxHeartbeats 12800000 in
theorem builds_no1 (words : Int) (p k : Int) (fill : Int) (R : Nat) (hR : max 0 (min words 300) = (R : Int)) (hh : nc k = 0) (w : World) :
    Calls Try.prog 4 #[.int .i64 words, .int .i64 p, .int .i64 k, .int .i64 fill] w (Same w (.bool true)) := by
  have HR := Lib.hid hR
  have HR9 := Lib.hid (show R ≤ 300 by omega)
  have HO := Lib.hid (show ¬ Op (fillL (List.replicate R 0) 0 R fill) p k from fun h => by have h1 := h.1; have h2 := h.2.1; have h3 := h.2.2.1; have h4 := h.2.2.2; rw [filled_len] at h4; omega)
  have g1 : decide (0 < nc k) = false := decide_eq_false (by omega)
  clear hR hh
  go_enter Try.func4, Try.ntmps4
  go_wp2_with fail
  with_reducible refine (alive_any _).mono ?_
  rintro x1 w1 ⟨rfl, hb1⟩
  have B1 := Lib.hid hb1
  clear hb1
  go_wp2_with fail
  with_reducible refine (near_any words 0 300 R HR.out (by omega) _).mono ?_
  rintro x2 w2 ⟨rfl, q2, rfl⟩
  go_wp2_with fail
  with_reducible refine (Mem.new_any (R : Int) R (by have := HR9.out; omega) _).mono ?_
  rintro x3 w3 ⟨g, v, rfl, hm3, hb3⟩
  have M3 : Hid (M w3 w.heap.size g v (List.replicate R 0)) := Lib.hid (hm3.lower B1.out.size)
  have B3 : Hid (Below w.heap.size w w3) := Lib.hid ((B1.out.trans ((Fr.drewN (Fr.refl No w1) q2).below B1.out.size (fun _ h => h.elim))).trans (hb3.mono B1.out.size))
  clear hm3 hb3
  go_wp2_with fail
  with_reducible refine (fill0 (x := fill) (by simp) M3.out).mono ?_
  rintro x4 w4 ⟨rfl, hm4, hf4⟩
  have M4 := Lib.hid hm4
  have B4 := Lib.hid (B3.out.trans (M3.out.below hf4 B3.out.size))
  clear hm4 hf4
  go_wp2_with fail
  with_reducible refine (build_no w.heap.size g v _ p k HO.out _ M4.out).mono ?_
  rintro x5 w5 ⟨rfl, hb5⟩
  have F5 := Lib.hid (Fr.of_below hb5 No)
  have M5 := Lib.hid (M4.out.no F5.out)
  have B5 := Lib.hid (B4.out.trans (hb5.mono B4.out.size))
  clear hb5
  go_wp2_with fail
  have XC := Lib.hid (heap_alloc_new w5 (.cells #[.int .i64 0, .int .i64 0] 29))
  have F6 := Lib.hid (Fr.alloc (Fr.refl No w5) (.cells #[.int .i64 0, .int .i64 0] 29))
  have Z6 := Lib.hid (show (w5.alloc (.cells #[.int .i64 0, .int .i64 0] 29)).heap.size = w5.heap.size + 1 by simp)
  generalize w5.alloc (.cells #[.int .i64 0, .int .i64 0] 29) = w6 at XC F6 Z6 ⊢
  with_reducible refine (rcells_any k _).mono ?_
  rintro x7 w7 ⟨rfl, hb7⟩
  have F7 := Lib.hid (F6.out.trans (Fr.of_below hb7 No) (fun i (h : No i) => h.elim))
  have XC7 := Lib.hid ((Fr.of_below hb7 No).blk XC.out (fun h => h))
  clear hb7 XC F6 Z6
  go_wp2_with fail
  with_reducible refine (Mem.all_any w.heap.size g v _ _ (M5.out.no F7.out)).mono ?_
  rintro x8 w8 ⟨v8, rfl, ho8, hb8⟩
  have F8 := Lib.hid (F7.out.trans (Fr.of_below hb8 No) (fun i (h : No i) => h.elim))
  have XC8 := Lib.hid ((Fr.of_below hb8 No).blk XC7.out (fun h => h))
  obtain ⟨A8, c8, rfl, _⟩ := ho8.slice
  have hr8 := ho8.rd
  rw [filled_len] at hr8 ⊢
  have R8 := Lib.hid hr8
  have B8 := Lib.hid (B5.out.trans (F8.out.below B5.out.size (fun _ h => h.elim)))
  clear ho8 hb8 hr8
  have c0 : w8.cell? ⟨w5.heap.size, 0, none⟩ = some (.int .i64 0) := cell_of XC8.out 0
  have c1 : w8.cell? ⟨w5.heap.size, 1, none⟩ = some (.int .i64 0) := cell_of XC8.out 1
  go_wp2_with fail
  go_loopw [15] (fun i wr => ∃ j : Nat, j ≤ R ∧ i = .int .i64 j ∧ wr = w8) (fun i _ => R - (intOf i).toNat)
  case atStart => exact ⟨0, Nat.zero_le _, rfl, rfl⟩
  case round =>
    obtain ⟨j, hj, rfl, rfl⟩ := hrel
    have i1 : (0 : Int) ≤ (j : Int) := Int.natCast_nonneg _
    have hR3 := HR9.out
    by_cases hlt : j < R
    · have i2 : (j : Int) < (R : Int) := by omega
      have HJ := Lib.hid hlt
      obtain ⟨ad, rfl, x0a⟩ := rd_at R8.out j (by rw [filled_len]; exact hlt)
      have x0 : wr.cell? (ad.add j) = some (.int .i64 fill) := by
        have h := filled_at R fill j hlt
        rw [List.getElem?_eq_getElem (by rw [filled_len]; exact hlt)] at h
        injection h with h
        rw [x0a, h]
      have gf : (fill != fill) = false := by simp
      clear hlt x0a
      go_wp2_with fail
      go_roundw
      case rel => exact ⟨j + 1, HJ.out, by go_num, trivial⟩
      case measure => have := HJ.out; simp [intOf]; omega
    · obtain rfl : j = R := by omega
      have i2 : ¬ (j : Int) < (j : Int) := by omega
      clear hlt
      go_wp2_with fail
      go_ret
      exact ⟨rfl, B8.out⟩

set_option maxRecDepth 100000 in
set_option maxHeartbeats 12800000 in
theorem builds_no2 (words : Int) (p k : Int) (fill : Int) (R : Nat) (hR : max 0 (min words 300) = (R : Int)) (hh : 0 < nc k ∧ p < 0) (w : World) :
    Calls Try.prog 4 #[.int .i64 words, .int .i64 p, .int .i64 k, .int .i64 fill] w (Same w (.bool true)) := by
  have HR := Lib.hid hR
  have HR9 := Lib.hid (show R ≤ 300 by omega)
  have HO := Lib.hid (show ¬ Op (fillL (List.replicate R 0) 0 R fill) p k from fun h => by have h1 := h.1; have h2 := h.2.1; have h3 := h.2.2.1; have h4 := h.2.2.2; rw [filled_len] at h4; omega)
  have g1 : decide (0 < nc k) = true := decide_eq_true (by omega)
  have g2 : decide (0 ≤ p) = false := decide_eq_false (by omega)
  clear hR hh
  go_enter Try.func4, Try.ntmps4
  go_wp2_with fail
  with_reducible refine (alive_any _).mono ?_
  rintro x1 w1 ⟨rfl, hb1⟩
  have B1 := Lib.hid hb1
  clear hb1
  go_wp2_with fail
  with_reducible refine (near_any words 0 300 R HR.out (by omega) _).mono ?_
  rintro x2 w2 ⟨rfl, q2, rfl⟩
  go_wp2_with fail
  with_reducible refine (Mem.new_any (R : Int) R (by have := HR9.out; omega) _).mono ?_
  rintro x3 w3 ⟨g, v, rfl, hm3, hb3⟩
  have M3 : Hid (M w3 w.heap.size g v (List.replicate R 0)) := Lib.hid (hm3.lower B1.out.size)
  have B3 : Hid (Below w.heap.size w w3) := Lib.hid ((B1.out.trans ((Fr.drewN (Fr.refl No w1) q2).below B1.out.size (fun _ h => h.elim))).trans (hb3.mono B1.out.size))
  clear hm3 hb3
  go_wp2_with fail
  with_reducible refine (fill0 (x := fill) (by simp) M3.out).mono ?_
  rintro x4 w4 ⟨rfl, hm4, hf4⟩
  have M4 := Lib.hid hm4
  have B4 := Lib.hid (B3.out.trans (M3.out.below hf4 B3.out.size))
  clear hm4 hf4
  go_wp2_with fail
  with_reducible refine (build_no w.heap.size g v _ p k HO.out _ M4.out).mono ?_
  rintro x5 w5 ⟨rfl, hb5⟩
  have F5 := Lib.hid (Fr.of_below hb5 No)
  have M5 := Lib.hid (M4.out.no F5.out)
  have B5 := Lib.hid (B4.out.trans (hb5.mono B4.out.size))
  clear hb5
  go_wp2_with fail
  have XC := Lib.hid (heap_alloc_new w5 (.cells #[.int .i64 0, .int .i64 0] 29))
  have F6 := Lib.hid (Fr.alloc (Fr.refl No w5) (.cells #[.int .i64 0, .int .i64 0] 29))
  have Z6 := Lib.hid (show (w5.alloc (.cells #[.int .i64 0, .int .i64 0] 29)).heap.size = w5.heap.size + 1 by simp)
  generalize w5.alloc (.cells #[.int .i64 0, .int .i64 0] 29) = w6 at XC F6 Z6 ⊢
  with_reducible refine (rcells_any k _).mono ?_
  rintro x7 w7 ⟨rfl, hb7⟩
  have F7 := Lib.hid (F6.out.trans (Fr.of_below hb7 No) (fun i (h : No i) => h.elim))
  have XC7 := Lib.hid ((Fr.of_below hb7 No).blk XC.out (fun h => h))
  clear hb7 XC F6 Z6
  go_wp2_with fail
  with_reducible refine (Mem.all_any w.heap.size g v _ _ (M5.out.no F7.out)).mono ?_
  rintro x8 w8 ⟨v8, rfl, ho8, hb8⟩
  have F8 := Lib.hid (F7.out.trans (Fr.of_below hb8 No) (fun i (h : No i) => h.elim))
  have XC8 := Lib.hid ((Fr.of_below hb8 No).blk XC7.out (fun h => h))
  obtain ⟨A8, c8, rfl, _⟩ := ho8.slice
  have hr8 := ho8.rd
  rw [filled_len] at hr8 ⊢
  have R8 := Lib.hid hr8
  have B8 := Lib.hid (B5.out.trans (F8.out.below B5.out.size (fun _ h => h.elim)))
  clear ho8 hb8 hr8
  have c0 : w8.cell? ⟨w5.heap.size, 0, none⟩ = some (.int .i64 0) := cell_of XC8.out 0
  have c1 : w8.cell? ⟨w5.heap.size, 1, none⟩ = some (.int .i64 0) := cell_of XC8.out 1
  go_wp2_with fail
  go_loopw [15] (fun i wr => ∃ j : Nat, j ≤ R ∧ i = .int .i64 j ∧ wr = w8) (fun i _ => R - (intOf i).toNat)
  case atStart => exact ⟨0, Nat.zero_le _, rfl, rfl⟩
  case round =>
    obtain ⟨j, hj, rfl, rfl⟩ := hrel
    have i1 : (0 : Int) ≤ (j : Int) := Int.natCast_nonneg _
    have hR3 := HR9.out
    by_cases hlt : j < R
    · have i2 : (j : Int) < (R : Int) := by omega
      have HJ := Lib.hid hlt
      obtain ⟨ad, rfl, x0a⟩ := rd_at R8.out j (by rw [filled_len]; exact hlt)
      have x0 : wr.cell? (ad.add j) = some (.int .i64 fill) := by
        have h := filled_at R fill j hlt
        rw [List.getElem?_eq_getElem (by rw [filled_len]; exact hlt)] at h
        injection h with h
        rw [x0a, h]
      have gf : (fill != fill) = false := by simp
      clear hlt x0a
      go_wp2_with fail
      go_roundw
      case rel => exact ⟨j + 1, HJ.out, by go_num, trivial⟩
      case measure => have := HJ.out; simp [intOf]; omega
    · obtain rfl : j = R := by omega
      have i2 : ¬ (j : Int) < (j : Int) := by omega
      clear hlt
      go_wp2_with fail
      go_ret
      exact ⟨rfl, B8.out⟩

set_option maxRecDepth 100000 in
set_option maxHeartbeats 12800000 in
theorem builds_no3 (words : Int) (p k : Int) (fill : Int) (R : Nat) (hR : max 0 (min words 300) = (R : Int)) (hh : 0 < nc k ∧ 64 ≤ p) (w : World) :
    Calls Try.prog 4 #[.int .i64 words, .int .i64 p, .int .i64 k, .int .i64 fill] w (Same w (.bool true)) := by
  have HR := Lib.hid hR
  have HR9 := Lib.hid (show R ≤ 300 by omega)
  have HO := Lib.hid (show ¬ Op (fillL (List.replicate R 0) 0 R fill) p k from fun h => by have h1 := h.1; have h2 := h.2.1; have h3 := h.2.2.1; have h4 := h.2.2.2; rw [filled_len] at h4; omega)
  have g1 : decide (0 < nc k) = true := decide_eq_true (by omega)
  have g2 : decide (0 ≤ p) = true := decide_eq_true (by omega)
  have g3 : decide (p < 64) = false := decide_eq_false (by omega)
  clear hR hh
  go_enter Try.func4, Try.ntmps4
  go_wp2_with fail
  with_reducible refine (alive_any _).mono ?_
  rintro x1 w1 ⟨rfl, hb1⟩
  have B1 := Lib.hid hb1
  clear hb1
  go_wp2_with fail
  with_reducible refine (near_any words 0 300 R HR.out (by omega) _).mono ?_
  rintro x2 w2 ⟨rfl, q2, rfl⟩
  go_wp2_with fail
  with_reducible refine (Mem.new_any (R : Int) R (by have := HR9.out; omega) _).mono ?_
  rintro x3 w3 ⟨g, v, rfl, hm3, hb3⟩
  have M3 : Hid (M w3 w.heap.size g v (List.replicate R 0)) := Lib.hid (hm3.lower B1.out.size)
  have B3 : Hid (Below w.heap.size w w3) := Lib.hid ((B1.out.trans ((Fr.drewN (Fr.refl No w1) q2).below B1.out.size (fun _ h => h.elim))).trans (hb3.mono B1.out.size))
  clear hm3 hb3
  go_wp2_with fail
  with_reducible refine (fill0 (x := fill) (by simp) M3.out).mono ?_
  rintro x4 w4 ⟨rfl, hm4, hf4⟩
  have M4 := Lib.hid hm4
  have B4 := Lib.hid (B3.out.trans (M3.out.below hf4 B3.out.size))
  clear hm4 hf4
  go_wp2_with fail
  with_reducible refine (build_no w.heap.size g v _ p k HO.out _ M4.out).mono ?_
  rintro x5 w5 ⟨rfl, hb5⟩
  have F5 := Lib.hid (Fr.of_below hb5 No)
  have M5 := Lib.hid (M4.out.no F5.out)
  have B5 := Lib.hid (B4.out.trans (hb5.mono B4.out.size))
  clear hb5
  go_wp2_with fail
  have XC := Lib.hid (heap_alloc_new w5 (.cells #[.int .i64 0, .int .i64 0] 29))
  have F6 := Lib.hid (Fr.alloc (Fr.refl No w5) (.cells #[.int .i64 0, .int .i64 0] 29))
  have Z6 := Lib.hid (show (w5.alloc (.cells #[.int .i64 0, .int .i64 0] 29)).heap.size = w5.heap.size + 1 by simp)
  generalize w5.alloc (.cells #[.int .i64 0, .int .i64 0] 29) = w6 at XC F6 Z6 ⊢
  with_reducible refine (rcells_any k _).mono ?_
  rintro x7 w7 ⟨rfl, hb7⟩
  have F7 := Lib.hid (F6.out.trans (Fr.of_below hb7 No) (fun i (h : No i) => h.elim))
  have XC7 := Lib.hid ((Fr.of_below hb7 No).blk XC.out (fun h => h))
  clear hb7 XC F6 Z6
  go_wp2_with fail
  with_reducible refine (Mem.all_any w.heap.size g v _ _ (M5.out.no F7.out)).mono ?_
  rintro x8 w8 ⟨v8, rfl, ho8, hb8⟩
  have F8 := Lib.hid (F7.out.trans (Fr.of_below hb8 No) (fun i (h : No i) => h.elim))
  have XC8 := Lib.hid ((Fr.of_below hb8 No).blk XC7.out (fun h => h))
  obtain ⟨A8, c8, rfl, _⟩ := ho8.slice
  have hr8 := ho8.rd
  rw [filled_len] at hr8 ⊢
  have R8 := Lib.hid hr8
  have B8 := Lib.hid (B5.out.trans (F8.out.below B5.out.size (fun _ h => h.elim)))
  clear ho8 hb8 hr8
  have c0 : w8.cell? ⟨w5.heap.size, 0, none⟩ = some (.int .i64 0) := cell_of XC8.out 0
  have c1 : w8.cell? ⟨w5.heap.size, 1, none⟩ = some (.int .i64 0) := cell_of XC8.out 1
  go_wp2_with fail
  go_loopw [15] (fun i wr => ∃ j : Nat, j ≤ R ∧ i = .int .i64 j ∧ wr = w8) (fun i _ => R - (intOf i).toNat)
  case atStart => exact ⟨0, Nat.zero_le _, rfl, rfl⟩
  case round =>
    obtain ⟨j, hj, rfl, rfl⟩ := hrel
    have i1 : (0 : Int) ≤ (j : Int) := Int.natCast_nonneg _
    have hR3 := HR9.out
    by_cases hlt : j < R
    · have i2 : (j : Int) < (R : Int) := by omega
      have HJ := Lib.hid hlt
      obtain ⟨ad, rfl, x0a⟩ := rd_at R8.out j (by rw [filled_len]; exact hlt)
      have x0 : wr.cell? (ad.add j) = some (.int .i64 fill) := by
        have h := filled_at R fill j hlt
        rw [List.getElem?_eq_getElem (by rw [filled_len]; exact hlt)] at h
        injection h with h
        rw [x0a, h]
      have gf : (fill != fill) = false := by simp
      clear hlt x0a
      go_wp2_with fail
      go_roundw
      case rel => exact ⟨j + 1, HJ.out, by go_num, trivial⟩
      case measure => have := HJ.out; simp [intOf]; omega
    · obtain rfl : j = R := by omega
      have i2 : ¬ (j : Int) < (j : Int) := by omega
      clear hlt
      go_wp2_with fail
      go_ret
      exact ⟨rfl, B8.out⟩

set_option maxRecDepth 100000 in
set_option maxHeartbeats 12800000 in
theorem builds_no4 (words : Int) (p k : Int) (fill : Int) (R : Nat) (hR : max 0 (min words 300) = (R : Int)) (hh : (0 < nc k ∧ 0 ≤ p ∧ p < 64) ∧ ¬ 32 * p + 32 ≤ (R : Int)) (w : World) :
    Calls Try.prog 4 #[.int .i64 words, .int .i64 p, .int .i64 k, .int .i64 fill] w (Same w (.bool true)) := by
  have HR := Lib.hid hR
  have HR9 := Lib.hid (show R ≤ 300 by omega)
  have HO := Lib.hid (show ¬ Op (fillL (List.replicate R 0) 0 R fill) p k from fun h => by have h1 := h.1; have h2 := h.2.1; have h3 := h.2.2.1; have h4 := h.2.2.2; rw [filled_len] at h4; omega)
  have g1 : decide (0 < nc k) = true := decide_eq_true (by omega)
  have g2 : decide (0 ≤ p) = true := decide_eq_true (by omega)
  have g3 : decide (p < 64) = true := decide_eq_true (by omega)
  have g4 : decide (32 * p + 32 ≤ (R : Int)) = false := decide_eq_false (by omega)
  have i4 : 0 ≤ p := by omega
  have i5 : p < 64 := by omega
  clear hR hh
  go_enter Try.func4, Try.ntmps4
  go_wp2_with fail
  with_reducible refine (alive_any _).mono ?_
  rintro x1 w1 ⟨rfl, hb1⟩
  have B1 := Lib.hid hb1
  clear hb1
  go_wp2_with fail
  with_reducible refine (near_any words 0 300 R HR.out (by omega) _).mono ?_
  rintro x2 w2 ⟨rfl, q2, rfl⟩
  go_wp2_with fail
  with_reducible refine (Mem.new_any (R : Int) R (by have := HR9.out; omega) _).mono ?_
  rintro x3 w3 ⟨g, v, rfl, hm3, hb3⟩
  have M3 : Hid (M w3 w.heap.size g v (List.replicate R 0)) := Lib.hid (hm3.lower B1.out.size)
  have B3 : Hid (Below w.heap.size w w3) := Lib.hid ((B1.out.trans ((Fr.drewN (Fr.refl No w1) q2).below B1.out.size (fun _ h => h.elim))).trans (hb3.mono B1.out.size))
  clear hm3 hb3
  go_wp2_with fail
  with_reducible refine (fill0 (x := fill) (by simp) M3.out).mono ?_
  rintro x4 w4 ⟨rfl, hm4, hf4⟩
  have M4 := Lib.hid hm4
  have B4 := Lib.hid (B3.out.trans (M3.out.below hf4 B3.out.size))
  clear hm4 hf4
  go_wp2_with fail
  with_reducible refine (build_no w.heap.size g v _ p k HO.out _ M4.out).mono ?_
  rintro x5 w5 ⟨rfl, hb5⟩
  have F5 := Lib.hid (Fr.of_below hb5 No)
  have M5 := Lib.hid (M4.out.no F5.out)
  have B5 := Lib.hid (B4.out.trans (hb5.mono B4.out.size))
  clear hb5
  go_wp2_with fail
  have XC := Lib.hid (heap_alloc_new w5 (.cells #[.int .i64 0, .int .i64 0] 29))
  have F6 := Lib.hid (Fr.alloc (Fr.refl No w5) (.cells #[.int .i64 0, .int .i64 0] 29))
  have Z6 := Lib.hid (show (w5.alloc (.cells #[.int .i64 0, .int .i64 0] 29)).heap.size = w5.heap.size + 1 by simp)
  generalize w5.alloc (.cells #[.int .i64 0, .int .i64 0] 29) = w6 at XC F6 Z6 ⊢
  with_reducible refine (rcells_any k _).mono ?_
  rintro x7 w7 ⟨rfl, hb7⟩
  have F7 := Lib.hid (F6.out.trans (Fr.of_below hb7 No) (fun i (h : No i) => h.elim))
  have XC7 := Lib.hid ((Fr.of_below hb7 No).blk XC.out (fun h => h))
  clear hb7 XC F6 Z6
  go_wp2_with fail
  with_reducible refine (Mem.all_any w.heap.size g v _ _ (M5.out.no F7.out)).mono ?_
  rintro x8 w8 ⟨v8, rfl, ho8, hb8⟩
  have F8 := Lib.hid (F7.out.trans (Fr.of_below hb8 No) (fun i (h : No i) => h.elim))
  have XC8 := Lib.hid ((Fr.of_below hb8 No).blk XC7.out (fun h => h))
  obtain ⟨A8, c8, rfl, _⟩ := ho8.slice
  have hr8 := ho8.rd
  rw [filled_len] at hr8 ⊢
  have R8 := Lib.hid hr8
  have B8 := Lib.hid (B5.out.trans (F8.out.below B5.out.size (fun _ h => h.elim)))
  clear ho8 hb8 hr8
  have c0 : w8.cell? ⟨w5.heap.size, 0, none⟩ = some (.int .i64 0) := cell_of XC8.out 0
  have c1 : w8.cell? ⟨w5.heap.size, 1, none⟩ = some (.int .i64 0) := cell_of XC8.out 1
  go_wp2_with fail
  go_loopw [15] (fun i wr => ∃ j : Nat, j ≤ R ∧ i = .int .i64 j ∧ wr = w8) (fun i _ => R - (intOf i).toNat)
  case atStart => exact ⟨0, Nat.zero_le _, rfl, rfl⟩
  case round =>
    obtain ⟨j, hj, rfl, rfl⟩ := hrel
    have i1 : (0 : Int) ≤ (j : Int) := Int.natCast_nonneg _
    have hR3 := HR9.out
    by_cases hlt : j < R
    · have i2 : (j : Int) < (R : Int) := by omega
      have HJ := Lib.hid hlt
      obtain ⟨ad, rfl, x0a⟩ := rd_at R8.out j (by rw [filled_len]; exact hlt)
      have x0 : wr.cell? (ad.add j) = some (.int .i64 fill) := by
        have h := filled_at R fill j hlt
        rw [List.getElem?_eq_getElem (by rw [filled_len]; exact hlt)] at h
        injection h with h
        rw [x0a, h]
      have gf : (fill != fill) = false := by simp
      clear hlt x0a
      go_wp2_with fail
      go_roundw
      case rel => exact ⟨j + 1, HJ.out, by go_num, trivial⟩
      case measure => have := HJ.out; simp [intOf]; omega
    · obtain rfl : j = R := by omega
      have i2 : ¬ (j : Int) < (j : Int) := by omega
      clear hlt
      go_wp2_with fail
      go_ret
      exact ⟨rfl, B8.out⟩

set_option maxRecDepth 100000 in
set_option maxHeartbeats 12800000 in
theorem builds_yes (words : Int) (p : Nat) (k : Int) (fill : Int) (R : Nat) (hR : max 0 (min words 300) = (R : Int)) (hp : p < 64) (hk : 0 < nc k) (hpr : 32 * p + 32 ≤ R) (w : World) :
    Calls Try.prog 4 #[.int .i64 words, .int .i64 p, .int .i64 k, .int .i64 fill] w (Same w (.bool true)) := by
  have HR := Lib.hid hR
  have HR9 := Lib.hid (show R ≤ 300 by omega)
  obtain ⟨l1, hl1⟩ : ∃ l1, l1 = fillL (List.replicate R 0) 0 R fill := ⟨_, rfl⟩
  have hlen : 32 * p + 32 ≤ l1.length := by rw [hl1, filled_len]; exact hpr
  have HY := Lib.hid (fun (W : World) B g v (h : M W B g v l1) => build_yes B g v l1 p k hp hk hlen W h)
  have hbl := bl_length l1 p k (nc k) hlen
  rw [hl1, filled_len] at hbl
  rw [← hl1] at hbl
  have hat : ∀ j, j < R → (bl l1 p k (nc k))[j]? = some (if j / 32 = p then (if j % sz k = 0 then -2 - ((j % 32 / sz k : Nat) : Int) else 0) else fill) := fun j hj => by
    rw [bl_at l1 p k hlen hk (nc k) (Nat.le_refl _)]
    by_cases h : j / 32 = p
    · rw [if_pos h, if_pos h]
      have hlt : j % 32 / sz k < nc k := by
        rcases sz_lit k hk with ⟨h1, h2⟩ | ⟨h1, h2⟩ | ⟨h1, h2⟩ | ⟨h1, h2⟩ <;> rw [h1, h2] <;> omega
      by_cases h3 : j % sz k = 0
      · rw [if_pos ⟨h3, hlt⟩, if_pos h3]
      · rw [if_neg (fun h4 => h3 h4.1), if_neg h3]
    · rw [if_neg h, if_neg h, hl1, filled_at R fill j hj]
  have hall : ∀ (W : World) B g v, M W B g v (bl l1 p k (nc k)) → Calls Try.prog 17 #[.pointer (some ⟨g, 0, none⟩), .int .i64 p, .int .i64 k, .agg #[.int .i64 0, .int .i64 (nc k)]] W (AllPost (some (upTo 0 (nc k))) W) := fun W B g v h => by
    have h2 := all_any B g v _ p k 0 (nc k) W h
    rw [Ch.all (show Ch _ p k 0 _ from ch_built l1 p k hlen (nc k) 0 (by omega)) (upTo_nodup _) hp hk (by rw [hbl]; exact hpr) (by rw [upTo_len])] at h2
    exact h2
  have HBL := Lib.hid hbl
  have HAT := Lib.hid hat
  have HALL := Lib.hid hall
  have hs2 : 2 ≤ sz k ∧ sz k ≤ 16 := by rcases sz_lit k hk with ⟨h1, h2⟩ | ⟨h1, h2⟩ | ⟨h1, h2⟩ | ⟨h1, h2⟩ <;> rw [h1] <;> omega
  have hn16 := nc_le k
  obtain ⟨l2, hl2⟩ : ∃ l2, l2 = bl l1 p k (nc k) := ⟨_, rfl⟩
  rw [← hl2] at HY HBL HAT HALL
  have HSZ := Lib.hid (fun W => rsize_any k W)
  have HNC := Lib.hid (fun W => rcells_any k W)
  obtain ⟨n, hn⟩ : ∃ n, n = nc k := ⟨_, rfl⟩
  obtain ⟨s, hs⟩ : ∃ s, s = sz k := ⟨_, rfl⟩
  rw [← hn] at HY HALL HNC hn16 hk
  rw [← hs] at HSZ HAT hs2
  have HS2 := Lib.hid hs2
  have HL1 := Lib.hid hl1
  have g1 : decide (0 < n) = true := decide_eq_true hk
  have i2p : (p : Int) < 64 := by omega
  have i3p : (0 : Int) ≤ (p : Int) := Int.natCast_nonneg _
  have g4 : decide (32 * (p : Int) + 32 ≤ (R : Int)) = true := decide_eq_true (by omega)
  have i6 : (R : Int) ≤ 300 := by omega
  clear hR hp hk hpr hlen hbl hat hall hn hs hl2 hs2 hl1
  go_enter Try.func4, Try.ntmps4
  go_wp2_with fail
  with_reducible refine (alive_any _).mono ?_
  rintro x1 w1 ⟨rfl, hb1⟩
  have B1 := Lib.hid hb1
  clear hb1
  go_wp2_with fail
  with_reducible refine (near_any words 0 300 R HR.out (by omega) _).mono ?_
  rintro x2 w2 ⟨rfl, q2, rfl⟩
  go_wp2_with fail
  with_reducible refine (Mem.new_any (R : Int) R (by have := HR9.out; omega) _).mono ?_
  rintro x3 w3 ⟨g, v, rfl, hm3, hb3⟩
  have M3 : Hid (M w3 w.heap.size g v (List.replicate R 0)) := Lib.hid (hm3.lower B1.out.size)
  have B3 : Hid (Below w.heap.size w w3) := Lib.hid ((B1.out.trans ((Fr.drewN (Fr.refl No w1) q2).below B1.out.size (fun _ h => h.elim))).trans (hb3.mono B1.out.size))
  clear hm3 hb3
  go_wp2_with fail
  with_reducible refine (fill0 (x := fill) (by simp) M3.out).mono ?_
  rintro x4 w4 ⟨rfl, hm4, hf4⟩
  have M4 := Lib.hid hm4
  have B4 := Lib.hid (B3.out.trans (M3.out.below hf4 B3.out.size))
  clear hm4 hf4
  go_wp2_with fail
  with_reducible refine (HY.out _ _ _ _ (by rw [HL1.out]; exact M4.out)).mono ?_
  rintro x5 w5 ⟨rfl, hm5, hf5⟩
  have M5 := Lib.hid hm5
  have B5 := Lib.hid (B4.out.trans (M4.out.below hf5 B4.out.size))
  clear hm5 hf5
  go_wp2_with fail
  have XC := Lib.hid (heap_alloc_new w5 (.cells #[.int .i64 0, .int .i64 n] 29))
  have F6 := Lib.hid (Fr.alloc (Fr.refl No w5) (.cells #[.int .i64 0, .int .i64 n] 29))
  generalize w5.alloc (.cells #[.int .i64 0, .int .i64 n] 29) = w6 at XC F6 ⊢
  with_reducible refine (HNC.out _).mono ?_
  rintro x7 w7 ⟨rfl, hb7⟩
  have F7 := Lib.hid (F6.out.trans (Fr.of_below hb7 No) (fun i (h : No i) => h.elim))
  have XC7 := Lib.hid ((Fr.of_below hb7 No).blk XC.out (fun h => h))
  clear hb7 XC F6
  go_wp2_with fail
  with_reducible refine (Mem.all_any w.heap.size g v _ _ (M5.out.no F7.out)).mono ?_
  rintro x8 w8 ⟨v8, rfl, ho8, hb8⟩
  have F8 := Lib.hid (F7.out.trans (Fr.of_below hb8 No) (fun i (h : No i) => h.elim))
  have XC8 := Lib.hid ((Fr.of_below hb8 No).blk XC7.out (fun h => h))
  obtain ⟨A8, c8, rfl, _⟩ := ho8.slice
  have hr8 := ho8.rd
  rw [HBL.out] at hr8 ⊢
  have R8 := Lib.hid hr8
  have B8 := Lib.hid (B5.out.trans (F8.out.below B5.out.size (fun _ h => h.elim)))
  clear ho8 hb8 hr8
  go_wp2_with fail
  go_loopw [15] (fun i wr => ∃ j : Nat, j ≤ R ∧ i = .int .i64 j ∧ Hid (Fr No w8 wr)) (fun i _ => R - (intOf i).toNat)
  case atStart => exact ⟨0, Nat.zero_le _, rfl, Lib.hid (Fr.refl _ _)⟩
  case round =>
    obtain ⟨j, hj, rfl, HQ⟩ := hrel
    have i1 : (0 : Int) ≤ (j : Int) := Int.natCast_nonneg _
    have hR3 := HR9.out
    by_cases hlt : j < R
    · have i2 : (j : Int) < (R : Int) := by omega
      have HJ := Lib.hid hlt
      have hrw : ∀ W, Fr No w8 W → ∃ ad, A8 = some ad ∧ W.cell? (ad.add j) = some (.int .i64 (if j / 32 = p then (if j % s = 0 then -2 - ((j % 32 / s : Nat) : Int) else 0) else fill)) := fun W hW => by
        obtain ⟨ad, he, x0a⟩ := rd_at (R8.out.fr hW (fun _ _ h => h)) j (by rw [HBL.out]; exact hlt)
        refine ⟨ad, he, ?_⟩
        have h := HAT.out j hlt
        rw [List.getElem?_eq_getElem (by rw [HBL.out]; exact hlt)] at h
        injection h with h
        rw [x0a, h]
      obtain ⟨q, hq⟩ : ∃ q, q = j / 32 := ⟨_, rfl⟩
      obtain ⟨m, hm⟩ : ∃ m, m = j % s := ⟨_, rfl⟩
      obtain ⟨r, hr⟩ : ∃ r, r = j % 32 := ⟨_, rfl⟩
      obtain ⟨d, hd⟩ : ∃ d, d = r / s := ⟨_, rfl⟩
      rw [← hq, ← hm, ← hr, ← hd] at hrw
      have HRW := Lib.hid hrw
      have e1 : Int.tdiv (j : Int) 32 = (q : Int) := by rw [hq]; rfl
      have e2 : Int.tmod (j : Int) (s : Int) = (m : Int) := by rw [hm]; rfl
      have e3 : Int.tmod (j : Int) 32 = (r : Int) := by rw [hr]; rfl
      have e4 : Int.tdiv (r : Int) (s : Int) = (d : Int) := by rw [hd]; rfl
      have i3 : (q : Int) ≤ 10 := by omega
      have i4 : (0 : Int) ≤ (q : Int) := Int.natCast_nonneg _
      have i5 : (s : Int) ≤ 16 := by have := HS2.out; omega
      have i6s : 2 ≤ (s : Int) := by have := HS2.out; omega
      have i7 : (m : Int) < 16 := by have := Nat.mod_lt j (show 0 < s by omega); omega
      have i8 : (0 : Int) ≤ (m : Int) := Int.natCast_nonneg _
      have i9 : (r : Int) < 32 := by omega
      have i10 : (0 : Int) ≤ (r : Int) := Int.natCast_nonneg _
      have i11 : (d : Int) < 32 := by have := Nat.div_le_self r s; omega
      have i12 : (0 : Int) ≤ (d : Int) := Int.natCast_nonneg _
      have s0 : ((s : Int) == 0) = false := by simp; omega
      have s1 : (s == 0) = false := by simp; omega
      clear hlt hrw hq hm hr hd
      by_cases hp : q = p
      · have g5 : ((q : Int) == (p : Int)) = true := by rw [hp]; simp
        have g6 : (q == p) = true := by rw [hp]; simp
        by_cases hm : m = 0
        · have g7 : ((m : Int) == 0) = true := by rw [hm]; rfl
          have g8 : (m == 0) = true := by rw [hm]; rfl
          have HV : Hid ((if q = p then (if m = 0 then -2 - (d : Int) else 0) else fill) = -2 - (d : Int)) := Lib.hid (by rw [if_pos hp, if_pos hm])
          have gv : ((-2 - (d : Int)) != (-2 - (d : Int))) = false := by simp
          clear hp hm
          go_wp2_with fail
          with_reducible refine (HSZ.out _).mono ?_
          rintro x9 w9 ⟨rfl, hb9⟩
          have F9 := Lib.hid (HQ.out.trans (Fr.of_below hb9 No) (fun i (h : No i) => h.elim))
          clear hb9
          go_wp2_with fail
          with_reducible refine (HSZ.out _).mono ?_
          rintro x10 w10 ⟨rfl, hb10⟩
          have F10 := Lib.hid (F9.out.trans (Fr.of_below hb10 No) (fun i (h : No i) => h.elim))
          obtain ⟨ad, rfl, x0⟩ := HRW.out w10 F10.out
          rw [HV.out] at x0
          clear hb10
          go_wp2_with fail
          go_roundw
          case rel => exact ⟨j + 1, HJ.out, by go_num, F10⟩
          case measure => have := HJ.out; simp [intOf]; omega
        · have g7 : ((m : Int) == 0) = false := by simp; exact hm
          have g8 : (m == 0) = false := by simp; exact hm
          have HV : Hid ((if q = p then (if m = 0 then -2 - (d : Int) else 0) else fill) = 0) := Lib.hid (by rw [if_pos hp, if_neg hm])
          clear hp hm
          go_wp2_with fail
          with_reducible refine (HSZ.out _).mono ?_
          rintro x9 w9 ⟨rfl, hb9⟩
          have F9 := Lib.hid (HQ.out.trans (Fr.of_below hb9 No) (fun i (h : No i) => h.elim))
          obtain ⟨ad, rfl, x0⟩ := HRW.out w9 F9.out
          rw [HV.out] at x0
          clear hb9
          go_wp2_with fail
          go_roundw
          case rel => exact ⟨j + 1, HJ.out, by go_num, F9⟩
          case measure => have := HJ.out; simp [intOf]; omega
      · have g5 : ((q : Int) == (p : Int)) = false := beq_eq_false_iff_ne.2 (by omega)
        have g6 : (q == p) = false := by simp; exact hp
        have HV : Hid ((if q = p then (if m = 0 then -2 - (d : Int) else 0) else fill) = fill) := Lib.hid (by rw [if_neg hp])
        have gv : (fill != fill) = false := by simp
        obtain ⟨ad, rfl, x0⟩ := HRW.out wr HQ.out
        rw [HV.out] at x0
        clear hp
        go_wp2_with fail
        go_roundw
        case rel => exact ⟨j + 1, HJ.out, by go_num, HQ⟩
        case measure => have := HJ.out; simp [intOf]; omega
    · obtain rfl : j = R := by omega
      have i2 : ¬ (j : Int) < (j : Int) := by omega
      have XC9 := Lib.hid (HQ.out.blk XC8.out (fun h => h))
      have c0 : wr.cell? ⟨w5.heap.size, 0, none⟩ = some (.int .i64 0) := cell_of XC9.out 0
      have c1 : wr.cell? ⟨w5.heap.size, 1, none⟩ = some (.int .i64 n) := cell_of XC9.out 1
      have F9 := Lib.hid (F8.out.trans HQ.out (fun i (h : No i) => h.elim))
      clear hlt
      go_wp2_with fail
      with_reducible refine (HALL.out _ _ _ _ (M5.out.no F9.out)).mono ?_
      rintro x10 w10 ⟨v10, rfl, ho10, hb10⟩
      obtain ⟨A10, d10, rfl, _⟩ := ho10.slice
      have XC10 := Lib.hid ((Fr.of_below hb10 No).blk XC9.out (fun h => h))
      have B10 := Lib.hid ((B5.out.trans (F9.out.below B5.out.size (fun _ h => h.elim))).trans (hb10.mono (by have := B5.out.size; have := F9.out.size; omega)))
      rw [upTo_len]
      have gn : ((n : Int) == (n : Int)) = true := by simp
      have gr : ((j : Int) == (j : Int)) = true := by simp
      clear ho10 hb10 c0 c1
      have c0 : w10.cell? ⟨w5.heap.size, 0, none⟩ = some (.int .i64 0) := cell_of XC10.out 0
      have c1 : w10.cell? ⟨w5.heap.size, 1, none⟩ = some (.int .i64 n) := cell_of XC10.out 1
      go_wp2_with fail
      go_ret
      exact ⟨rfl, B10.out⟩

theorem builds_any (words p k fill : Int) (w : World) :
    Calls Try.prog 4 #[.int .i64 words, .int .i64 p, .int .i64 k, .int .i64 fill] w (Same w (.bool true)) := by
  obtain ⟨R, hR⟩ := Int.eq_ofNat_of_zero_le (show 0 ≤ max 0 (min words 300) by omega)
  by_cases h1 : nc k = 0
  · exact builds_no1 words p k fill R hR h1 w
  by_cases h2 : p < 0
  · exact builds_no2 words p k fill R hR ⟨by omega, h2⟩ w
  by_cases h3 : 64 ≤ p
  · exact builds_no3 words p k fill R hR ⟨by omega, h3⟩ w
  by_cases h4 : 32 * p + 32 ≤ (R : Int)
  · obtain ⟨q, rfl⟩ := Int.eq_ofNat_of_zero_le (show 0 ≤ p by omega)
    exact builds_yes words q k fill R hR (by omega) (by omega) (by omega) w
  · exact builds_no4 words p k fill R hR ⟨⟨by omega, by omega, by omega⟩, h4⟩ w

end Go.Proofs.Ytbndmcblkfaheaa.Chain
