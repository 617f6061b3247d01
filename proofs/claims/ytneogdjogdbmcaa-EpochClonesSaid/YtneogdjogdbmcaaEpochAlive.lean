/- Proved: the first lines of the laws of package scutagelaw15 answer true. -/
import Derived.Test.YtneogdjogdbmcaaEpochLaw
namespace Go.Proofs.Ytneogdjogdbmcaa.EpochAlive
open Go.RowKit Go.Proofs.Ytneogdjogdbmcaa.H Go.Proofs.Ytneogdjogdbmcaa.Nums Go.Proofs.Ytneogdjogdbmcaa.Epoch Go.Proofs.Ytneogdjogdbmcaa.EpochLaw

set_option maxHeartbeats 1600000 in
theorem in_any (A : Option Addr) (n c : Nat) (xs : List Int) (t : Int) (hn : n = xs.length) (w : World) (hr : Rd w (.slice A n c) n 1 (ints xs)) (hl : xs.length ≤ 8) :
    Calls Try.prog 20 #[.slice A n c, .int .i64 t] w (Quiet w (.bool (decide (t ∈ xs)))) := by
  subst hn
  have HR := Lib.hid hr
  clear hr
  go_enter Try.func20, Try.ntmps20
  go_wp2
  go_loopw [5] (fun i wr => ∃ k : Nat, k ≤ xs.length ∧ i = .int .i64 k ∧ wr = w ∧ Hid (∀ j, j < k → xs[j]? ≠ some t)) (fun i _ => xs.length - (intOf i).toNat)
  case atStart => exact ⟨0, Nat.zero_le _, rfl, rfl, Lib.hid (fun j h => by omega)⟩
  case round =>
    obtain ⟨k, hk, rfl, rfl, HQ⟩ := hrel
    by_cases hlt : k < xs.length
    · obtain ⟨ad, rfl, x0a⟩ := rd_at HR.out k hlt
      obtain ⟨y, hy, x0⟩ : ∃ y, xs[k]? = some y ∧ wr.cell? (ad.add k) = some (.int .i64 y) := ⟨_, List.getElem?_eq_getElem hlt, x0a⟩
      have HLT := Lib.hid hlt
      have HYY := Lib.hid hy
      have i1 : (0 : Int) ≤ (k : Int) := Int.natCast_nonneg _
      have i2 : (k : Int) < (xs.length : Int) := by omega
      clear hy x0a
      by_cases he : y = t
      · subst he
        have HM := Lib.hid (List.mem_of_getElem? HYY.out)
        go_wp2
        go_ret
        exact ⟨by rw [decide_eq_true HM.out]; rfl, 0, rfl⟩
      · have HNE := Lib.hid he
        have g1 : (y == t) = false := by simpa using he
        clear he
        go_wp2
        go_roundw
        case rel => exact ⟨k + 1, by have := HLT.out; omega, by go_num, trivial, Lib.hid (fun j hj => by
          by_cases e : j = k
          · subst e; rw [HYY.out]; intro h; injection h with h; exact HNE.out h
          · exact HQ.out j (by omega))⟩
        case measure => simp [intOf]; omega
    · obtain rfl : k = xs.length := by omega
      have HM := Lib.hid (show ¬ t ∈ xs from fun h => by
        obtain ⟨j, hj⟩ := List.getElem?_of_mem h
        exact HQ.out j (List.getElem?_eq_some_iff.1 hj).1 hj)
      go_wp2
      go_ret
      exact ⟨by rw [decide_eq_false HM.out]; rfl, 0, rfl⟩

set_option maxRecDepth 100000 in
set_option maxHeartbeats 12800000 in
theorem alive_any (w : World) : Calls Try.prog 6 #[] w (Same w (.bool true)) := by
  go_enter Try.func6, Try.ntmps6
  go_wp2_with fail
  refine (new_any 2 2 (by decide) w).mono ?_
  rintro x1 w1 ⟨g, v, rfl, hs1, hb1⟩
  have S1 := Lib.hid hs1
  have B1 := Lib.hid hb1
  clear hs1 hb1
  go_wp2_with fail
  have C2 := attach_any w.heap.size g v _ 0 0 w1 S1.out
  rw [show attachL (List.replicate 2 (false, 0)) 0 0 = [(true, 0), (false, 0)] by decide, show attachB (List.replicate 2 (false, 0)) 0 = true by decide] at C2
  refine C2.mono ?_
  clear C2
  rintro x2 w2 ⟨rfl, hs2, hf2⟩
  have S2 := Lib.hid hs2
  have F2 := Lib.hid hf2
  clear hs2 hf2
  go_wp2_with fail
  have C3 := attach_any w.heap.size g v _ 0 1 w2 S2.out
  rw [show attachL [(true, 0), (false, 0)] 0 1 = [(true, 0), (true, 0)] by decide, show attachB [(true, 0), (false, 0)] 1 = true by decide] at C3
  refine C3.mono ?_
  clear C3
  rintro x3 w3 ⟨rfl, hs3, hf3⟩
  have S3 := Lib.hid hs3
  have F3 := Lib.hid (F2.out.trans hf3 (fun i hi => .inl hi))
  clear hs3 hf3
  go_wp2_with fail
  have C4 := raise_any w.heap.size g v _ 0 w3 S3.out
  rw [show wrap64 (0 + 1) = 1 by unfold wrap64; omega] at C4
  refine C4.mono ?_
  clear C4
  rintro x4 w4 ⟨rfl, hs4, hf4⟩
  have S4 := Lib.hid hs4
  have F4 := Lib.hid (F3.out.trans hf4 (fun i hi => .inl hi))
  clear hs4 hf4
  go_wp2_with fail
  have C5 := confirm_any w.heap.size g v _ 1 0 w4 S4.out
  rw [show confirmL [(true, 0), (true, 0)] 1 0 = [(true, 1), (true, 0)] by decide, show confirmB [(true, 0), (true, 0)] 1 0 = true by decide] at C5
  refine C5.mono ?_
  clear C5
  rintro x5 w5 ⟨rfl, hs5, hf5⟩
  have S5 := Lib.hid hs5
  have F5 := Lib.hid (F4.out.trans hf5 (fun i hi => .inl hi))
  clear hs5 hf5
  go_wp2_with fail
  have C6 := confirm_any w.heap.size g v _ 1 0 w5 S5.out
  rw [show confirmL [(true, 1), (true, 0)] 1 0 = [(true, 1), (true, 0)] by decide, show confirmB [(true, 1), (true, 0)] 1 0 = false by decide] at C6
  refine C6.mono ?_
  clear C6
  rintro x6 w6 ⟨rfl, hs6, hf6⟩
  have S6 := Lib.hid hs6
  have F6 := Lib.hid (F5.out.trans hf6 (fun i hi => .inl hi))
  clear hs6 hf6
  go_wp2_with fail
  have C7 := behind_any w.heap.size g v _ 1 w6 S6.out
  rw [show pick (behP 1) [(true, 1), (true, 0)] ([(true, 1), (true, 0)] : List Mb).length = [1] by decide] at C7
  refine C7.mono ?_
  clear C7
  rintro x7 w7 h7
  obtain ⟨A7, c7, rfl, o7, b7⟩ := h7.slice
  have O7 := Lib.hid o7
  have F7 := Lib.hid (F6.out.then_below b7)
  have G7 := Lib.hid (Fr.of_below b7 No)
  clear h7 o7 b7
  go_wp2_with fail
  have R8 : Rd (w7.alloc (.cells #[.int .i64 1] 3)) (.slice (some ⟨w7.heap.size, 0, none⟩) 1 1) 1 1 (ints [1]) := by
    refine ⟨rfl, ints_one _, .inr ⟨_, 1, rfl, Nat.le_refl _, ?_⟩⟩
    intro j u hj
    match j, hj with
    | 0, hj =>
      simp [ints] at hj
      subst hj
      rw [show (⟨w7.heap.size, 0, none⟩ : Addr).add 0 = ⟨w7.heap.size, 0, none⟩ from rfl, cell_of (heap_alloc_new w7 _)]
      rfl
    | j + 1, hj => simp [ints] at hj
  have R8 := Lib.hid R8
  refine (Nums.same_any A7 _ 1 1 c7 1 [1] rfl rfl _ (O7.out.fr ((Fr.refl No _).alloc _) (fun _ _ h => h)).rd R8.out (by simp)).mono ?_
  rintro x8 w8 ⟨rfl, n8, rfl⟩
  go_wp2_with fail
  have C9 := agreed_any w.heap.size g v _ 1 _ (S6.out.no ((G7.out.alloc (.cells #[.int .i64 1] 3)).drewN n8))
  rw [show (((pick (behP 1) [(true, 1), (true, 0)] ([(true, 1), (true, 0)] : List Mb).length).length : Int) == 0) = false by decide] at C9
  refine C9.mono ?_
  clear C9
  rintro x9 w9 ⟨rfl, h9⟩
  have G9 := Lib.hid (((G7.out.alloc (.cells #[.int .i64 1] 3)).drewN n8).then_below h9)
  clear h9
  go_wp2_with fail
  have C10 := least_any w.heap.size g v _ 1 _ (S6.out.no G9.out)
  rw [show leastI [(true, 1), (true, 0)] 1 (pick allP [(true, 1), (true, 0)] ([(true, 1), (true, 0)] : List Mb).length) = 0 by decide] at C10
  refine C10.mono ?_
  clear C10
  rintro x10 w10 ⟨rfl, h10⟩
  have G10 := Lib.hid (G9.out.then_below h10)
  clear h10
  go_wp2
  go_ret
  refine ⟨rfl, ?_⟩
  have hz := B1.out.size
  have h1 := (S1.out.below F6.out hz)
  exact B1.out.trans (h1.trans (G10.out.below (by have := F6.out.size; omega) (fun _ h => h.elim)))

end Go.Proofs.Ytneogdjogdbmcaa.EpochAlive
