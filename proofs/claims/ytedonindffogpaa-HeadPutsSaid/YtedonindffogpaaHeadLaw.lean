/- Proved: the laws' own helpers of package scutagelaw10, and the law HeadTells over any arguments. -/
import Derived.Test.YtedonindffogpaaHead
namespace Go.Proofs.Ytedonindffogpaa.HeadLaw
open Go.RowKit Go.Proofs.Ytedonindffogpaa.H Go.Proofs.Ytedonindffogpaa.Words Go.Proofs.Ytedonindffogpaa.Mem Go.Proofs.Ytedonindffogpaa.Head

set_option maxRecDepth 100000 in
set_option maxHeartbeats 3200000 in
theorem alive_any (w : World) : Calls Try.prog 6 #[] w (Same w (.bool true)) := by
  have hx : ((List.replicate 9 (0 : Int)).set 4 130)[4]? = some 130 := rfl
  have HX := Lib.hid hx
  clear hx
  have H130 : Hid ((1 : Int) * 128 + 2 = 130) := Lib.hid (by decide)
  go_enter Try.func6, Try.ntmps6
  go_wp2_with fail
  have HC := make_yes 1 2 w (by decide)
  rw [H130.out] at HC
  refine HC.mono ?_
  rintro e w0 ⟨rfl, n0, rfl⟩
  clear HC
  go_wp2_with fail
  refine (new_any 9 9 rfl _).mono ?_
  rintro e w1 ⟨g, v, rfl, hs1, hb1⟩
  have H1 := Lib.hid (hs1.lower (B' := w.heap.size) (by simp))
  have B1 := Lib.hid (((Fr.refl No w).drewN n0 |>.then_below hb1).below (Nat.le_refl _) (fun _ h => h.elim))
  clear hs1 hb1
  go_wp2_with fail
  have HC := put_yes _ g v _ 4 1 2 w1 H1.out (by decide) (by decide)
  rw [H130.out] at HC
  refine HC.mono ?_
  rintro e w2 ⟨rfl, hs2, hf2⟩
  clear HC
  have H2 := Lib.hid hs2
  have B2 := Lib.hid (B1.out.trans (H1.out.below hf2 B1.out.size))
  clear hs2 hf2 H1 B1
  go_wp2_with fail
  refine (read_yes _ g v _ 4 130 _ H2.out HX.out (by decide) (by decide)).mono ?_
  rintro e w3 ⟨rfl, n3, rfl⟩
  go_wp2_with fail
  refine (field_yes _ g v _ 4 130 1 _ (H2.out.no (by repeat (first | exact Fr.refl _ _ | apply Fr.drewN | apply Fr.drew | apply Fr.alloc))) HX.out (by decide) (by decide) (by decide) (by decide)).mono ?_
  rintro e w4 ⟨rfl, n4, rfl⟩
  go_wp2
  go_ret
  exact ⟨rfl, Fr.below (S := No) (by repeat (first | exact Fr.of_below B2.out No | apply Fr.drewN | apply Fr.drew)) (Nat.le_refl _) (fun _ h => h.elim)⟩

theorem near_any (n lo hi r : Int) (hr : max lo (min n hi) = r) (hh : lo ≤ hi) (w : World) :
    Calls Try.prog 13 #[.int .i64 n, .int .i64 lo, .int .i64 hi] w (Quiet w (.int .i64 r)) := by
  subst hr
  by_cases h1 : n < lo
  · have e : max lo (min n hi) = lo := by omega
    rw [e]
    go_enter Try.func13, Try.ntmps13
    go_wp2
    go_ret
    exact ⟨rfl, 0, rfl⟩
  by_cases h2 : hi < n
  · have e : max lo (min n hi) = hi := by omega
    rw [e]
    go_enter Try.func13, Try.ntmps13
    go_wp2
    go_ret
    exact ⟨rfl, 0, rfl⟩
  · have e : max lo (min n hi) = n := by omega
    rw [e]
    go_enter Try.func13, Try.ntmps13
    go_wp2
    go_ret
    exact ⟨rfl, 0, rfl⟩

set_option maxRecDepth 100000 in
set_option maxHeartbeats 12800000 in
theorem tells_any (s n x : Int) (w : World) (hxb : x / 128 ≤ 72057594037927936) :
    Calls Try.prog 3 #[.int .i64 s, .int .i64 n, .int .i64 x] w (Same w (.bool true)) := by
  have HXB := Lib.hid hxb
  clear hxb
  have hc : s < 0 ∨ (0 ≤ s ∧ 1099511627776 ≤ s) ∨ ((0 ≤ s ∧ s < 1099511627776) ∧ n < 0) ∨ ((0 ≤ s ∧ s < 1099511627776) ∧ 0 ≤ n ∧ 128 ≤ n) ∨ ((0 ≤ s ∧ s < 1099511627776) ∧ 0 ≤ n ∧ n < 128) := by omega
  have hd : x < 0 ∨ (0 ≤ x ∧ 140737488355328 ≤ x) ∨ (0 ≤ x ∧ x < 140737488355328) := by omega
  have go1 : ∀ w1 : World, (¬ Head.Good s n) → Calls Try.prog 7 #[.int .i64 s, .int .i64 n] w1 (Quiet w1 (.tuple #[.int .i64 0, .bool false])) := fun w1 h => make_no s n w1 h
  have G1 := Lib.hid go1
  clear go1
  rcases hc with h1 | ⟨h1, h2⟩ | ⟨⟨h1, h2⟩, h3⟩ | ⟨⟨h1, h2⟩, h3, h4⟩ | ⟨⟨h1, h2⟩, h3, h4⟩
  all_goals
    first
    | have HG : Hid (¬ Head.Good s n) := Lib.hid (by unfold Head.Good; omega)
    | have HY : Hid (Head.Good s n) := Lib.hid (by unfold Head.Good; omega)
    rcases hd with k1 | ⟨k1, k2⟩ | ⟨k1, k2⟩
    all_goals
      first
      | have HW : Hid (¬ Word x) := Lib.hid (by unfold Word; omega)
      | have HV : Hid (Word x) := Lib.hid (by unfold Word; omega)
      go_enter Try.func3, Try.ntmps3
      go_wp2_with fail
      refine (alive_any _).mono ?_
      rintro e w1 ⟨rfl, hb1⟩
      have B1 := Lib.hid hb1
      clear hb1
      go_wp2_with (first
        | (go_at_call 7; refine (make_no s n _ HG.out).mono ?_; rintro e wl ⟨rfl, nl, rfl⟩)
        | (go_at_call 7; refine (make_yes s n _ HY.out).mono ?_; rintro e wl ⟨rfl, nl, rfl⟩)
        | (go_at_call 8; refine (split_no x _ HXB.out HW.out).mono ?_; rintro e ws ⟨rfl, ns, rfl⟩)
        | (go_at_call 8; refine (split_yes x _ HV.out).mono ?_; rintro e ws ⟨rfl, ns, rfl⟩))
      go_ret
      exact ⟨rfl, Fr.below (S := No) (by repeat (first | exact Fr.of_below B1.out No | apply Fr.drewN | apply Fr.drew)) (Nat.le_refl _) (fun _ h => h.elim)⟩

end Go.Proofs.Ytedonindffogpaa.HeadLaw
