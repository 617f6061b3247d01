-- Written by this session's own generator (wip/gen), not by the kit's print.sh.
import Derived.Test.YtikoiaeoajbobaaPGeoCellsx0
import Derived.Test.YtikoiaeoajbobaaPGeoCellsx1
namespace Go.Proofs.Ytikoiaeoajbobaa.PGeoCells
open Go.RowKit Go.Proofs.YtikoiaeoajbobaaW.PrintWords Go.Proofs.YtikoiaeoajbobaaW.PrintLast Go.Proofs.YtikoiaeoajbobaaW.PrintMore
attribute [local go_sem] max2_int min2_int max_two min_two max_three min_three max_four min_four   -- for this text's walks alone
set_option linter.unusedVariables false
set_option linter.unusedSimpArgs false

/-! ### scutagelaw07_GeoCells: function 4 -/
mutual
def scutagelaw07_GeoCells.j0 : Nat → Int → Int → Int → Int → Int → Int → Bool → Bool → Option (Bool)
  | 0, _, _, _, _, _, _, _, _ => none
  | k + 1, x0, x1, x2, x3, x9, x10, x11, x44 => if x44 = true then (if x10 = 0 then (if x11 = true then (some false) else (scutagelaw07_GeoCells.j1 k x1 x3 x9)) else (some false)) else (if x10 = (wrap64 ((wrap64 (32 * x0)) + (wrap64 (x9 * x2)))) then (if x11 = true then (scutagelaw07_GeoCells.j1 k x1 x3 x9) else (some false)) else (some false))
def scutagelaw07_GeoCells.j1 : Nat → Int → Int → Int → Option (Bool)
  | 0, _, _, _ => none
  | k + 1, x1, x3, x9 => (geo_Cell.f k x1 x3).bind fun bt129 => (if x9 = 0 then (scutagelaw07_GeoCells.j2 k x1 x3 x9 bt129.1 bt129.2 true) else (if x3 < 0 then (scutagelaw07_GeoCells.j2 k x1 x3 x9 bt129.1 bt129.2 true) else (scutagelaw07_GeoCells.j2 k x1 x3 x9 bt129.1 bt129.2 (decide (x3 > 2047)))))
def scutagelaw07_GeoCells.j2 : Nat → Int → Int → Int → Int → Bool → Bool → Option (Bool)
  | 0, _, _, _, _, _, _ => none
  | k + 1, x1, x3, x9, x12, x13, x77 => if x77 = true then (if x12 = 0 then (if x13 = true then (some false) else ((geo_Base.f x1 x3).bind fun t131 => (some (t131 == (-1))))) else (some false)) else (if x9 = 0 then (none) else (if (Int.tmod x3 x9) = 0 then (if x13 = true then (if x12 = (wrap64 (Int.tdiv (Int.tmod x3 32) x9)) then ((geo_Base.f x1 x3).bind fun t132 => (some (t132 == x3))) else (some false)) else (some false)) else (if x12 = 0 then (if x13 = true then (some false) else ((geo_Base.f x1 x3).bind fun t133 => (some (t133 == (wrap64 (x3 - (Int.tmod x3 x9))))))) else (some false))))
end
def scutagelaw07_GeoCells.f (k : Nat) (a0 : Int) (a1 : Int) (a2 : Int) (a3 : Int) : Option (Bool) := (scutagelaw07_alive.f k).bind fun t124 => (if t124 = true then ((scutageref06_Size.f a1).bind fun t125 => ((geo_At.f a0 a1 a2).bind fun bt126 => (if a0 < 0 then (scutagelaw07_GeoCells.j0 k a0 a1 a2 a3 t125 bt126.1 bt126.2 true) else (if a0 > 63 then (scutagelaw07_GeoCells.j0 k a0 a1 a2 a3 t125 bt126.1 bt126.2 true) else (if t125 = 0 then (scutagelaw07_GeoCells.j0 k a0 a1 a2 a3 t125 bt126.1 bt126.2 true) else (if a2 < 0 then (scutagelaw07_GeoCells.j0 k a0 a1 a2 a3 t125 bt126.1 bt126.2 true) else ((scutageref06_Cells.f a1).bind fun t128 => (scutagelaw07_GeoCells.j0 k a0 a1 a2 a3 t125 bt126.1 bt126.2 (decide (a2 ≥ t128)))))))))) else (some false))
theorem scutagelaw07_GeoCells.mono_l : ∀ k, (∀ y0 y1 y2 y3 y4 y5 y6 y7, LeO (scutagelaw07_GeoCells.j0 k y0 y1 y2 y3 y4 y5 y6 y7) (scutagelaw07_GeoCells.j0 (k + 1) y0 y1 y2 y3 y4 y5 y6 y7)) ∧ (∀ y0 y1 y2, LeO (scutagelaw07_GeoCells.j1 k y0 y1 y2) (scutagelaw07_GeoCells.j1 (k + 1) y0 y1 y2)) ∧ (∀ y0 y1 y2 y3 y4 y5, LeO (scutagelaw07_GeoCells.j2 k y0 y1 y2 y3 y4 y5) (scutagelaw07_GeoCells.j2 (k + 1) y0 y1 y2 y3 y4 y5))
  | 0 => ⟨fun _ _ _ _ _ _ _ _ r h => by simp [scutagelaw07_GeoCells.j0] at h, fun _ _ _ r h => by simp [scutagelaw07_GeoCells.j1] at h, fun _ _ _ _ _ _ r h => by simp [scutagelaw07_GeoCells.j2] at h⟩
  | k + 1 => by
    obtain ⟨ih0, ih1, ih2⟩ := scutagelaw07_GeoCells.mono_l k
    refine ⟨?_, ?_, ?_⟩
    · intro y0 y1 y2 y3 y4 y5 y6 y7
      unfold scutagelaw07_GeoCells.j0
      repeat' first
      | (with_reducible exact ih0 _ _ _ _ _ _ _ _)
      | (with_reducible exact ih1 _ _ _)
      | (with_reducible exact ih2 _ _ _ _ _ _)
      | (with_reducible exact geo_Cell.mono _ _ _)
      | (with_reducible exact scutagelaw07_alive.mono _)
      | (with_reducible exact LeO.refl _)
      | (with_reducible exact LeO.none _)
      | (with_reducible refine LeO.ite ?_ ?_)
      | (with_reducible refine LeO.bind ?_ (fun _ => ?_))
      | exact ih0 _ _ _ _ _ _ _ _
      | exact ih1 _ _ _
      | exact ih2 _ _ _ _ _ _
      | exact geo_Cell.mono _ _ _
      | exact scutagelaw07_alive.mono _
      | exact LeO.none _
      | refine LeO.ite ?_ ?_
      | refine LeO.bind ?_ (fun _ => ?_)
    · intro y0 y1 y2
      unfold scutagelaw07_GeoCells.j1
      repeat' first
      | (with_reducible exact ih0 _ _ _ _ _ _ _ _)
      | (with_reducible exact ih1 _ _ _)
      | (with_reducible exact ih2 _ _ _ _ _ _)
      | (with_reducible exact geo_Cell.mono _ _ _)
      | (with_reducible exact scutagelaw07_alive.mono _)
      | (with_reducible exact LeO.refl _)
      | (with_reducible exact LeO.none _)
      | (with_reducible refine LeO.ite ?_ ?_)
      | (with_reducible refine LeO.bind ?_ (fun _ => ?_))
      | exact ih0 _ _ _ _ _ _ _ _
      | exact ih1 _ _ _
      | exact ih2 _ _ _ _ _ _
      | exact geo_Cell.mono _ _ _
      | exact scutagelaw07_alive.mono _
      | exact LeO.none _
      | refine LeO.ite ?_ ?_
      | refine LeO.bind ?_ (fun _ => ?_)
    · intro y0 y1 y2 y3 y4 y5
      unfold scutagelaw07_GeoCells.j2
      repeat' first
      | (with_reducible exact ih0 _ _ _ _ _ _ _ _)
      | (with_reducible exact ih1 _ _ _)
      | (with_reducible exact ih2 _ _ _ _ _ _)
      | (with_reducible exact geo_Cell.mono _ _ _)
      | (with_reducible exact scutagelaw07_alive.mono _)
      | (with_reducible exact LeO.refl _)
      | (with_reducible exact LeO.none _)
      | (with_reducible refine LeO.ite ?_ ?_)
      | (with_reducible refine LeO.bind ?_ (fun _ => ?_))
      | exact ih0 _ _ _ _ _ _ _ _
      | exact ih1 _ _ _
      | exact ih2 _ _ _ _ _ _
      | exact geo_Cell.mono _ _ _
      | exact scutagelaw07_alive.mono _
      | exact LeO.none _
      | refine LeO.ite ?_ ?_
      | refine LeO.bind ?_ (fun _ => ?_)
theorem scutagelaw07_GeoCells.mono : ∀ a0 a1 a2 a3 k, LeO (scutagelaw07_GeoCells.f k a0 a1 a2 a3) (scutagelaw07_GeoCells.f (k + 1) a0 a1 a2 a3) := by
  intro a0 a1 a2 a3 k
  obtain ⟨ih0, ih1, ih2⟩ := scutagelaw07_GeoCells.mono_l k
  unfold scutagelaw07_GeoCells.f
  repeat' first
      | (with_reducible exact ih0 _ _ _ _ _ _ _ _)
      | (with_reducible exact ih1 _ _ _)
      | (with_reducible exact ih2 _ _ _ _ _ _)
      | (with_reducible exact geo_Cell.mono _ _ _)
      | (with_reducible exact scutagelaw07_alive.mono _)
      | (with_reducible exact LeO.refl _)
      | (with_reducible exact LeO.none _)
      | (with_reducible refine LeO.ite ?_ ?_)
      | (with_reducible refine LeO.bind ?_ (fun _ => ?_))
      | exact ih0 _ _ _ _ _ _ _ _
      | exact ih1 _ _ _
      | exact ih2 _ _ _ _ _ _
      | exact geo_Cell.mono _ _ _
      | exact scutagelaw07_alive.mono _
      | exact LeO.none _
      | refine LeO.ite ?_ ?_
      | refine LeO.bind ?_ (fun _ => ?_)
set_option maxHeartbeats 8000000 in
set_option maxRecDepth 100000 in
theorem scutagelaw07_GeoCells.calls (k : Nat) (a0 : Int) (a1 : Int) (a2 : Int) (a3 : Int) (r : Bool) (w : World) (h : scutagelaw07_GeoCells.f k a0 a1 a2 a3 = some r) :
    Calls Try.prog 4 #[.int .i64 a0, .int .i64 a1, .int .i64 a2, .int .i64 a3] w fun e w' => e = .returned (.bool r) ∧ Below w.heap.size w w' := by
  have HB := Aside0.mk (Below.refl w.heap.size w)
  have H : ((scutagelaw07_alive.f k).bind fun t124 => (if t124 = true then ((scutageref06_Size.f a1).bind fun t125 => ((geo_At.f a0 a1 a2).bind fun bt126 => (if a0 < 0 then (scutagelaw07_GeoCells.j0 k a0 a1 a2 a3 t125 bt126.1 bt126.2 true) else (if a0 > 63 then (scutagelaw07_GeoCells.j0 k a0 a1 a2 a3 t125 bt126.1 bt126.2 true) else (if t125 = 0 then (scutagelaw07_GeoCells.j0 k a0 a1 a2 a3 t125 bt126.1 bt126.2 true) else (if a2 < 0 then (scutagelaw07_GeoCells.j0 k a0 a1 a2 a3 t125 bt126.1 bt126.2 true) else ((scutageref06_Cells.f a1).bind fun t128 => (scutagelaw07_GeoCells.j0 k a0 a1 a2 a3 t125 bt126.1 bt126.2 (decide (a2 ≥ t128)))))))))) else (some false))) = some r := h
  clear h
  replace H := Option.bind_eq_some_iff.mp H
  obtain ⟨t124, A50, H⟩ := H
  replace H : (if t124 = true then ((scutageref06_Size.f a1).bind fun t125 => ((geo_At.f a0 a1 a2).bind fun bt126 => (if a0 < 0 then (scutagelaw07_GeoCells.j0 k a0 a1 a2 a3 t125 bt126.1 bt126.2 true) else (if a0 > 63 then (scutagelaw07_GeoCells.j0 k a0 a1 a2 a3 t125 bt126.1 bt126.2 true) else (if t125 = 0 then (scutagelaw07_GeoCells.j0 k a0 a1 a2 a3 t125 bt126.1 bt126.2 true) else (if a2 < 0 then (scutagelaw07_GeoCells.j0 k a0 a1 a2 a3 t125 bt126.1 bt126.2 true) else ((scutageref06_Cells.f a1).bind fun t128 => (scutagelaw07_GeoCells.j0 k a0 a1 a2 a3 t125 bt126.1 bt126.2 (decide (a2 ≥ t128)))))))))) else (some false)) = some r := H
  have A5 := Aside0.mk A50
  clear A50
  by_cases c6 : t124 = true
  · subst c6
    have H1 : ((scutageref06_Size.f a1).bind fun t125 => ((geo_At.f a0 a1 a2).bind fun bt126 => (if a0 < 0 then (scutagelaw07_GeoCells.j0 k a0 a1 a2 a3 t125 bt126.1 bt126.2 true) else (if a0 > 63 then (scutagelaw07_GeoCells.j0 k a0 a1 a2 a3 t125 bt126.1 bt126.2 true) else (if t125 = 0 then (scutagelaw07_GeoCells.j0 k a0 a1 a2 a3 t125 bt126.1 bt126.2 true) else (if a2 < 0 then (scutagelaw07_GeoCells.j0 k a0 a1 a2 a3 t125 bt126.1 bt126.2 true) else ((scutageref06_Cells.f a1).bind fun t128 => (scutagelaw07_GeoCells.j0 k a0 a1 a2 a3 t125 bt126.1 bt126.2 (decide (a2 ≥ t128)))))))))) = some r := by rw [if_pos rfl] at H; exact H
    clear H
    have H := H1
    clear H1
    replace H := Option.bind_eq_some_iff.mp H
    obtain ⟨t125, A70, H⟩ := H
    replace H : ((geo_At.f a0 a1 a2).bind fun bt126 => (if a0 < 0 then (scutagelaw07_GeoCells.j0 k a0 a1 a2 a3 t125 bt126.1 bt126.2 true) else (if a0 > 63 then (scutagelaw07_GeoCells.j0 k a0 a1 a2 a3 t125 bt126.1 bt126.2 true) else (if t125 = 0 then (scutagelaw07_GeoCells.j0 k a0 a1 a2 a3 t125 bt126.1 bt126.2 true) else (if a2 < 0 then (scutagelaw07_GeoCells.j0 k a0 a1 a2 a3 t125 bt126.1 bt126.2 true) else ((scutageref06_Cells.f a1).bind fun t128 => (scutagelaw07_GeoCells.j0 k a0 a1 a2 a3 t125 bt126.1 bt126.2 (decide (a2 ≥ t128))))))))) = some r := H
    have A7 := Aside0.mk A70
    clear A70
    replace H := Option.bind_eq_some_iff.mp H
    obtain ⟨⟨t126, t127⟩, A80, H⟩ := H
    replace H : (if a0 < 0 then (scutagelaw07_GeoCells.j0 k a0 a1 a2 a3 t125 t126 t127 true) else (if a0 > 63 then (scutagelaw07_GeoCells.j0 k a0 a1 a2 a3 t125 t126 t127 true) else (if t125 = 0 then (scutagelaw07_GeoCells.j0 k a0 a1 a2 a3 t125 t126 t127 true) else (if a2 < 0 then (scutagelaw07_GeoCells.j0 k a0 a1 a2 a3 t125 t126 t127 true) else ((scutageref06_Cells.f a1).bind fun t128 => (scutagelaw07_GeoCells.j0 k a0 a1 a2 a3 t125 t126 t127 (decide (a2 ≥ t128)))))))) = some r := H
    have A8 := Aside0.mk A80
    clear A80
    have HC9 := Aside0.mk H
    clear H
    go_enter Try.func4, Try.ntmps4
    go_upto_region 5 with (first | (go_at_call 6; (with_reducible refine (scutagelaw07_alive.calls k  true _ A5.out).mono ?_); rintro e w' ⟨rfl, ⟨nd, rfl⟩⟩; (try first | exact ⟨rfl, _, World.drewN_drewN _ _ _⟩ | exact ⟨rfl, _, Eq.trans (World.drewN_drewN _ _ _) (congrArg (World.drewN _) (Nat.add_assoc _ _ _))⟩)) | (go_at_call 10; (with_reducible refine (scutageref06_Size.calls a1 t125 _ A7.out).mono ?_); rintro e w10 ⟨rfl, hb⟩; have n0_ := Aside0.mk (below_step (by repeat (first | (with_reducible first | exact HB.out | apply below_alloc | apply pw_below_drewN | apply below_drew1) | exact HB.out)) hb); clear HB; have HB := n0_; clear n0_; (try clear hb); (try clear hb2); (try clear hk); (try clear hi)) | (go_at_call 11; (with_reducible refine (geo_At.calls a0 a1 a2 t126 t127 _ A8.out).mono ?_); rintro e w' ⟨rfl, ⟨nd, rfl⟩⟩; (try first | exact ⟨rfl, _, World.drewN_drewN _ _ _⟩ | exact ⟨rfl, _, Eq.trans (World.drewN_drewN _ _ _) (congrArg (World.drewN _) (Nat.add_assoc _ _ _))⟩)))
    repeat (go_quiet (first | (go_at_call 6; (with_reducible refine (scutagelaw07_alive.calls k  true _ A5.out).mono ?_); rintro e w' ⟨rfl, ⟨nd, rfl⟩⟩; (try first | exact ⟨rfl, _, World.drewN_drewN _ _ _⟩ | exact ⟨rfl, _, Eq.trans (World.drewN_drewN _ _ _) (congrArg (World.drewN _) (Nat.add_assoc _ _ _))⟩)) | (go_at_call 10; (with_reducible refine (scutageref06_Size.calls a1 t125 _ A7.out).mono ?_); rintro e w10 ⟨rfl, hb⟩; have n0_ := Aside0.mk (below_step (by repeat (first | (with_reducible first | exact HB.out | apply below_alloc | apply pw_below_drewN | apply below_drew1) | exact HB.out)) hb); clear HB; have HB := n0_; clear n0_; (try clear hb); (try clear hb2); (try clear hk); (try clear hi)) | (go_at_call 11; (with_reducible refine (geo_At.calls a0 a1 a2 t126 t127 _ A8.out).mono ?_); rintro e w' ⟨rfl, ⟨nd, rfl⟩⟩; (try first | exact ⟨rfl, _, World.drewN_drewN _ _ _⟩ | exact ⟨rfl, _, Eq.trans (World.drewN_drewN _ _ _) (congrArg (World.drewN _) (Nat.add_assoc _ _ _))⟩))); go_upto_region 5 with (first | (go_at_call 6; (with_reducible refine (scutagelaw07_alive.calls k  true _ A5.out).mono ?_); rintro e w' ⟨rfl, ⟨nd, rfl⟩⟩; (try first | exact ⟨rfl, _, World.drewN_drewN _ _ _⟩ | exact ⟨rfl, _, Eq.trans (World.drewN_drewN _ _ _) (congrArg (World.drewN _) (Nat.add_assoc _ _ _))⟩)) | (go_at_call 10; (with_reducible refine (scutageref06_Size.calls a1 t125 _ A7.out).mono ?_); rintro e w10 ⟨rfl, hb⟩; have n0_ := Aside0.mk (below_step (by repeat (first | (with_reducible first | exact HB.out | apply below_alloc | apply pw_below_drewN | apply below_drew1) | exact HB.out)) hb); clear HB; have HB := n0_; clear n0_; (try clear hb); (try clear hb2); (try clear hk); (try clear hi)) | (go_at_call 11; (with_reducible refine (geo_At.calls a0 a1 a2 t126 t127 _ A8.out).mono ?_); rintro e w' ⟨rfl, ⟨nd, rfl⟩⟩; (try first | exact ⟨rfl, _, World.drewN_drewN _ _ _⟩ | exact ⟨rfl, _, Eq.trans (World.drewN_drewN _ _ _) (congrArg (World.drewN _) (Nat.add_assoc _ _ _))⟩))))
    (try simp only [Act.put, List.setIfInBounds_toArray, List.set_cons_zero, List.set_cons_succ])
    go_cut [44] (fun v44 wc => ∃ (kq : Nat) (x44_8 : Bool), v44 = .bool x44_8 ∧ Aside0 (scutagelaw07_GeoCells.j0 kq a0 a1 a2 a3 t125 t126 t127 x44_8 = some r) ∧ Aside0 (kq ≤ k) ∧ Aside0 (Below w.heap.size w wc))
    case first =>
      have H := HC9.out
      clear HC9
      by_cases c11 : a0 < 0
      · rw [if_pos c11] at H
        have c11b0 : decide (a0 < 0) = true := decide_eq_true c11
        clear c11
        (first | rw [c11b0] | (simp only [i64_w, i32_w]; rw [c11b0]) | skip)
        have H' := Aside0.mk H
        clear H
        go_wp2
        repeat (go_quiet (fail); try go_wp2)
        go_meet
        case rel => exact ⟨_, (true), (by first | rfl | (simp; done) | (simp [*]; done) | (simp [Int.tdiv_eq_ediv_of_nonneg]; done)), H', ⟨by first | omega | exact Nat.le_refl _⟩, ⟨by repeat (first | (with_reducible first | exact HB.out | apply below_alloc | apply pw_below_drewN | apply below_drew1) | exact HB.out)⟩⟩
      · rw [if_neg c11] at H
        have c11b0 : decide (a0 < 0) = false := decide_eq_false c11
        clear c11
        (first | rw [c11b0] | (simp only [i64_w, i32_w]; rw [c11b0]) | skip)
        by_cases c12 : a0 > 63
        · rw [if_pos c12] at H
          have c12b0 : decide (63 < a0) = true := decide_eq_true c12
          clear c12
          have H' := Aside0.mk H
          clear H
          go_wp2
          repeat (go_quiet (fail); try go_wp2)
          go_meet
          case rel => exact ⟨_, (true), (by first | rfl | (simp; done) | (simp [*]; done) | (simp [Int.tdiv_eq_ediv_of_nonneg]; done)), H', ⟨by first | omega | exact Nat.le_refl _⟩, ⟨by repeat (first | (with_reducible first | exact HB.out | apply below_alloc | apply pw_below_drewN | apply below_drew1) | exact HB.out)⟩⟩
        · rw [if_neg c12] at H
          have c12b0 : decide (63 < a0) = false := decide_eq_false c12
          clear c12
          by_cases c13 : t125 = 0
          · rw [if_pos c13] at H
            have c13b0 : (t125 == 0) = true := beq_iff_eq.mpr c13
            have c13b1 : (t125 != 0) = false := bne_eq_false_iff_eq.mpr c13
            clear c13
            have H' := Aside0.mk H
            clear H
            go_wp2
            repeat (go_quiet (fail); try go_wp2)
            go_meet
            case rel => exact ⟨_, (true), (by first | rfl | (simp; done) | (simp [*]; done) | (simp [Int.tdiv_eq_ediv_of_nonneg]; done)), H', ⟨by first | omega | exact Nat.le_refl _⟩, ⟨by repeat (first | (with_reducible first | exact HB.out | apply below_alloc | apply pw_below_drewN | apply below_drew1) | exact HB.out)⟩⟩
          · rw [if_neg c13] at H
            have c13b0 : (t125 == 0) = false := beq_eq_false_iff_ne.mpr c13
            have c13b1 : (t125 != 0) = true := bne_iff_ne.mpr c13
            by_cases c14 : a2 < 0
            · rw [if_pos c14] at H
              have c14b0 : decide (a2 < 0) = true := decide_eq_true c14
              clear c14
              have H' := Aside0.mk H
              clear H
              go_wp2
              repeat (go_quiet (fail); try go_wp2)
              go_meet
              case rel => exact ⟨_, (true), (by first | rfl | (simp; done) | (simp [*]; done) | (simp [Int.tdiv_eq_ediv_of_nonneg]; done)), H', ⟨by first | omega | exact Nat.le_refl _⟩, ⟨by repeat (first | (with_reducible first | exact HB.out | apply below_alloc | apply pw_below_drewN | apply below_drew1) | exact HB.out)⟩⟩
            · rw [if_neg c14] at H
              have c14b0 : decide (a2 < 0) = false := decide_eq_false c14
              clear c14
              replace H := Option.bind_eq_some_iff.mp H
              obtain ⟨t128, A150, H⟩ := H
              replace H : (scutagelaw07_GeoCells.j0 k a0 a1 a2 a3 t125 t126 t127 (decide (a2 ≥ t128))) = some r := H
              have A15 := Aside0.mk A150
              clear A150
              have H' := Aside0.mk H
              clear H
              go_wp2_with (first | (go_at_call 12; (with_reducible refine (scutageref06_Cells.calls a1 t128 _ A15.out).mono ?_); rintro e w16 ⟨rfl, hb⟩; have n0_ := Aside0.mk (below_step (by repeat (first | (with_reducible first | exact HB.out | apply below_alloc | apply pw_below_drewN | apply below_drew1) | exact HB.out)) hb); clear HB; have HB := n0_; clear n0_; (try clear hb); (try clear hb2); (try clear hk); (try clear hi)))
              repeat (go_quiet (first | (go_at_call 12; (with_reducible refine (scutageref06_Cells.calls a1 t128 _ A15.out).mono ?_); rintro e w16 ⟨rfl, hb⟩; have n0_ := Aside0.mk (below_step (by repeat (first | (with_reducible first | exact HB.out | apply below_alloc | apply pw_below_drewN | apply below_drew1) | exact HB.out)) hb); clear HB; have HB := n0_; clear n0_; (try clear hb); (try clear hb2); (try clear hk); (try clear hi))); try go_wp2_with (first | (go_at_call 12; (with_reducible refine (scutageref06_Cells.calls a1 t128 _ A15.out).mono ?_); rintro e w16 ⟨rfl, hb⟩; have n0_ := Aside0.mk (below_step (by repeat (first | (with_reducible first | exact HB.out | apply below_alloc | apply pw_below_drewN | apply below_drew1) | exact HB.out)) hb); clear HB; have HB := n0_; clear n0_; (try clear hb); (try clear hb2); (try clear hk); (try clear hi))))
              go_meet
              case rel => exact ⟨_, (decide (a2 ≥ t128)), (by first | rfl | (simp; done) | (simp [*]; done) | (simp [Int.tdiv_eq_ediv_of_nonneg]; done)), H', ⟨by first | omega | exact Nat.le_refl _⟩, ⟨by repeat (first | (with_reducible first | exact HB.out | apply below_alloc | apply pw_below_drewN | apply below_drew1) | exact HB.out)⟩⟩
    case rest =>
      clear HC9
      try clear c1
      try clear p2
      try clear c4
      try clear c6
      try clear c11
      try clear c11b0
      try clear c12
      try clear c12b0
      try clear c13
      try clear c13b0
      try clear c13b1
      try clear c14
      try clear c14b0
      obtain ⟨kq, x44_8, rfl, HA, HJ8, HB⟩ := hcut
      cases kq with
      | zero => exact absurd HA.out (by simp [scutagelaw07_GeoCells.j0])
      | succ kj8 =>
        have H := HA.out
        clear HA
        simp only [scutagelaw07_GeoCells.j0] at H
        have HC17 := Aside0.mk H
        clear H
        go_upto_if 44 with (fail)
        repeat (go_quiet (fail); go_upto_if 44 with (fail))
        go_cut [] (fun wc => ∃ (kq : Nat), Aside0 (scutagelaw07_GeoCells.j1 kq a1 a3 t125 = some r) ∧ Aside0 (kq ≤ kj8) ∧ Aside0 (Below w.heap.size w wc))
        case first =>
          have H := HC17.out
          clear HC17
          by_cases c18 : x44_8 = true
          · subst c18
            have H1 : (if t126 = 0 then (if t127 = true then (some false) else (scutagelaw07_GeoCells.j1 kj8 a1 a3 t125)) else (some false)) = some r := by rw [if_pos rfl] at H; exact H
            clear H
            have H := H1
            clear H1
            by_cases c19 : t126 = 0
            · rw [if_pos c19] at H
              have c19b0 : (t126 == 0) = true := beq_iff_eq.mpr c19
              have c19b1 : (t126 != 0) = false := bne_eq_false_iff_eq.mpr c19
              clear c19
              (first | rw [c19b0] | (simp only [i64_w, i32_w]; rw [c19b0]) | skip)
              by_cases c20 : t127 = true
              · subst c20
                have H1 : (some false) = some r := by rw [if_pos rfl] at H; exact H
                clear H
                have H := H1
                clear H1
                obtain rfl := Option.some.inj H
                go_wp2
                repeat (go_quiet (fail); try go_wp2)
                go_ret
                exact ⟨by first | rfl | (simp [errW_none, errW_some] <;> rfl) | (simp [*, errW_none, errW_some] <;> rfl) | (simp [*, Int.tdiv_eq_ediv_of_nonneg, errW_none, errW_some] <;> rfl), by repeat (first | (with_reducible first | exact HB.out | apply below_alloc | apply pw_below_drewN | apply below_drew1) | exact HB.out)⟩
              · replace c20 := Bool.eq_false_iff.mpr c20
                subst c20
                have H1 : (scutagelaw07_GeoCells.j1 kj8 a1 a3 t125) = some r := by rw [if_neg (show ¬ (false = true) by decide)] at H; exact H
                clear H
                have H := H1
                clear H1
                have H' := Aside0.mk H
                clear H
                go_wp2
                repeat (go_quiet (fail); try go_wp2)
                go_meet
                case rel => exact ⟨_, H', ⟨by have := HJ8.out; first | omega | exact Nat.le_refl _⟩, ⟨by repeat (first | (with_reducible first | exact HB.out | apply below_alloc | apply pw_below_drewN | apply below_drew1) | exact HB.out)⟩⟩
            · rw [if_neg c19] at H
              have c19b0 : (t126 == 0) = false := beq_eq_false_iff_ne.mpr c19
              have c19b1 : (t126 != 0) = true := bne_iff_ne.mpr c19
              (first | rw [c19b0] | (simp only [i64_w, i32_w]; rw [c19b0]) | skip)
              obtain rfl := Option.some.inj H
              go_wp2
              repeat (go_quiet (fail); try go_wp2)
              go_ret
              exact ⟨by first | rfl | (simp [errW_none, errW_some] <;> rfl) | (simp [*, errW_none, errW_some] <;> rfl) | (simp [*, Int.tdiv_eq_ediv_of_nonneg, errW_none, errW_some] <;> rfl), by repeat (first | (with_reducible first | exact HB.out | apply below_alloc | apply pw_below_drewN | apply below_drew1) | exact HB.out)⟩
          · replace c18 := Bool.eq_false_iff.mpr c18
            subst c18
            have H1 : (if t126 = (wrap64 ((wrap64 (32 * a0)) + (wrap64 (t125 * a2)))) then (if t127 = true then (scutagelaw07_GeoCells.j1 kj8 a1 a3 t125) else (some false)) else (some false)) = some r := by rw [if_neg (show ¬ (false = true) by decide)] at H; exact H
            clear H
            have H := H1
            clear H1
            by_cases c21 : t126 = (wrap64 ((wrap64 (32 * a0)) + (wrap64 (t125 * a2))))
            · rw [if_pos c21] at H
              have c21b0 : (t126 == (wrap64 ((wrap64 (32 * a0)) + (wrap64 (t125 * a2))))) = true := beq_iff_eq.mpr c21
              have c21b1 : (t126 != (wrap64 ((wrap64 (32 * a0)) + (wrap64 (t125 * a2))))) = false := bne_eq_false_iff_eq.mpr c21
              clear c21
              by_cases c22 : t127 = true
              · subst c22
                have H1 : (scutagelaw07_GeoCells.j1 kj8 a1 a3 t125) = some r := by rw [if_pos rfl] at H; exact H
                clear H
                have H := H1
                clear H1
                have H' := Aside0.mk H
                clear H
                go_wp2
                repeat (go_quiet (fail); try go_wp2)
                go_meet
                case rel => exact ⟨_, H', ⟨by have := HJ8.out; first | omega | exact Nat.le_refl _⟩, ⟨by repeat (first | (with_reducible first | exact HB.out | apply below_alloc | apply pw_below_drewN | apply below_drew1) | exact HB.out)⟩⟩
              · replace c22 := Bool.eq_false_iff.mpr c22
                subst c22
                have H1 : (some false) = some r := by rw [if_neg (show ¬ (false = true) by decide)] at H; exact H
                clear H
                have H := H1
                clear H1
                obtain rfl := Option.some.inj H
                go_wp2
                repeat (go_quiet (fail); try go_wp2)
                go_ret
                exact ⟨by first | rfl | (simp [errW_none, errW_some] <;> rfl) | (simp [*, errW_none, errW_some] <;> rfl) | (simp [*, Int.tdiv_eq_ediv_of_nonneg, errW_none, errW_some] <;> rfl), by repeat (first | (with_reducible first | exact HB.out | apply below_alloc | apply pw_below_drewN | apply below_drew1) | exact HB.out)⟩
            · rw [if_neg c21] at H
              have c21b0 : (t126 == (wrap64 ((wrap64 (32 * a0)) + (wrap64 (t125 * a2))))) = false := beq_eq_false_iff_ne.mpr c21
              have c21b1 : (t126 != (wrap64 ((wrap64 (32 * a0)) + (wrap64 (t125 * a2))))) = true := bne_iff_ne.mpr c21
              obtain rfl := Option.some.inj H
              go_wp2
              repeat (go_quiet (fail); try go_wp2)
              go_ret
              exact ⟨by first | rfl | (simp [errW_none, errW_some] <;> rfl) | (simp [*, errW_none, errW_some] <;> rfl) | (simp [*, Int.tdiv_eq_ediv_of_nonneg, errW_none, errW_some] <;> rfl), by repeat (first | (with_reducible first | exact HB.out | apply below_alloc | apply pw_below_drewN | apply below_drew1) | exact HB.out)⟩
        case rest =>
          clear HC17
          try clear c1
          try clear c2
          try clear p2
          try clear c4
          try clear c6
          try clear p6
          try clear c11
          try clear c11b0
          try clear c12
          try clear c12b0
          try clear c13
          try clear c13b0
          try clear c13b1
          try clear c14
          try clear c14b0
          try clear c18
          try clear c19
          try clear c19b0
          try clear c19b1
          try clear c20
          try clear c21
          try clear c21b0
          try clear c21b1
          try clear c22
          try clear p2
          obtain ⟨kq, HA, HJ16, HB⟩ := hcut
          cases kq with
          | zero => exact absurd HA.out (by simp [scutagelaw07_GeoCells.j1])
          | succ kj16 =>
            have H := HA.out
            clear HA
            simp only [scutagelaw07_GeoCells.j1] at H
            replace H := Option.bind_eq_some_iff.mp H
            obtain ⟨⟨t129, t130⟩, A230, H⟩ := H
            replace H : (if t125 = 0 then (scutagelaw07_GeoCells.j2 kj16 a1 a3 t125 t129 t130 true) else (if a3 < 0 then (scutagelaw07_GeoCells.j2 kj16 a1 a3 t125 t129 t130 true) else (scutagelaw07_GeoCells.j2 kj16 a1 a3 t125 t129 t130 (decide (a3 > 2047))))) = some r := H
            have A23 := Aside0.mk A230
            clear A230
            have HC24 := Aside0.mk H
            clear H
            go_upto_region 11 with (first | (go_at_call 13; (with_reducible refine (geo_Cell.calls kj16 a1 a3 t129 t130 _ A23.out).mono ?_); rintro e w' ⟨rfl, ⟨nd, rfl⟩⟩; (try first | exact ⟨rfl, _, World.drewN_drewN _ _ _⟩ | exact ⟨rfl, _, Eq.trans (World.drewN_drewN _ _ _) (congrArg (World.drewN _) (Nat.add_assoc _ _ _))⟩)))
            repeat (go_quiet (first | (go_at_call 13; (with_reducible refine (geo_Cell.calls kj16 a1 a3 t129 t130 _ A23.out).mono ?_); rintro e w' ⟨rfl, ⟨nd, rfl⟩⟩; (try first | exact ⟨rfl, _, World.drewN_drewN _ _ _⟩ | exact ⟨rfl, _, Eq.trans (World.drewN_drewN _ _ _) (congrArg (World.drewN _) (Nat.add_assoc _ _ _))⟩))); go_upto_region 11 with (first | (go_at_call 13; (with_reducible refine (geo_Cell.calls kj16 a1 a3 t129 t130 _ A23.out).mono ?_); rintro e w' ⟨rfl, ⟨nd, rfl⟩⟩; (try first | exact ⟨rfl, _, World.drewN_drewN _ _ _⟩ | exact ⟨rfl, _, Eq.trans (World.drewN_drewN _ _ _) (congrArg (World.drewN _) (Nat.add_assoc _ _ _))⟩))))
            (try simp only [Act.put, List.setIfInBounds_toArray, List.set_cons_zero, List.set_cons_succ])
            go_cut [77] (fun v77 wc => ∃ (kq : Nat) (x77_23 : Bool), v77 = .bool x77_23 ∧ Aside0 (scutagelaw07_GeoCells.j2 kq a1 a3 t125 t129 t130 x77_23 = some r) ∧ Aside0 (kq ≤ kj16) ∧ Aside0 (Below w.heap.size w wc))
            case first =>
              have H := HC24.out
              clear HC24
              by_cases c25 : t125 = 0
              · rw [if_pos c25] at H
                have c25b0 : (t125 == 0) = true := beq_iff_eq.mpr c25
                have c25b1 : (t125 != 0) = false := bne_eq_false_iff_eq.mpr c25
                clear c25
                (first | rw [c25b0] | (simp only [i64_w, i32_w]; rw [c25b0]) | skip)
                have H' := Aside0.mk H
                clear H
                go_wp2
                repeat (go_quiet (fail); try go_wp2)
                go_meet
                case rel => exact ⟨_, (true), (by first | rfl | (simp; done) | (simp [*]; done) | (simp [Int.tdiv_eq_ediv_of_nonneg]; done)), H', ⟨by have := HJ8.out; have := HJ16.out; first | omega | exact Nat.le_refl _⟩, ⟨by repeat (first | (with_reducible first | exact HB.out | apply below_alloc | apply pw_below_drewN | apply below_drew1) | exact HB.out)⟩⟩
              · rw [if_neg c25] at H
                have c25b0 : (t125 == 0) = false := beq_eq_false_iff_ne.mpr c25
                have c25b1 : (t125 != 0) = true := bne_iff_ne.mpr c25
                (first | rw [c25b0] | (simp only [i64_w, i32_w]; rw [c25b0]) | skip)
                by_cases c26 : a3 < 0
                · rw [if_pos c26] at H
                  have c26b0 : decide (a3 < 0) = true := decide_eq_true c26
                  clear c26
                  have H' := Aside0.mk H
                  clear H
                  go_wp2
                  repeat (go_quiet (fail); try go_wp2)
                  go_meet
                  case rel => exact ⟨_, (true), (by first | rfl | (simp; done) | (simp [*]; done) | (simp [Int.tdiv_eq_ediv_of_nonneg]; done)), H', ⟨by have := HJ8.out; have := HJ16.out; first | omega | exact Nat.le_refl _⟩, ⟨by repeat (first | (with_reducible first | exact HB.out | apply below_alloc | apply pw_below_drewN | apply below_drew1) | exact HB.out)⟩⟩
                · rw [if_neg c26] at H
                  have c26b0 : decide (a3 < 0) = false := decide_eq_false c26
                  clear c26
                  have H' := Aside0.mk H
                  clear H
                  go_wp2
                  repeat (go_quiet (fail); try go_wp2)
                  go_meet
                  case rel => exact ⟨_, (decide (a3 > 2047)), (by first | rfl | (simp; done) | (simp [*]; done) | (simp [Int.tdiv_eq_ediv_of_nonneg]; done)), H', ⟨by have := HJ8.out; have := HJ16.out; first | omega | exact Nat.le_refl _⟩, ⟨by repeat (first | (with_reducible first | exact HB.out | apply below_alloc | apply pw_below_drewN | apply below_drew1) | exact HB.out)⟩⟩
            case rest =>
              clear HC24
              try clear c1
              try clear c2
              try clear p2
              try clear c4
              try clear c6
              try clear p6
              try clear c11
              try clear c11b0
              try clear c12
              try clear c12b0
              try clear c13
              try clear c13b0
              try clear c13b1
              try clear c14
              try clear c14b0
              try clear c18
              try clear c19
              try clear c19b0
              try clear c19b1
              try clear c20
              try clear c21
              try clear c21b0
              try clear c21b1
              try clear c22
              try clear c25
              try clear c25b0
              try clear c25b1
              try clear c26
              try clear c26b0
              try clear p2
              try clear p6
              obtain ⟨kq, x77_23, rfl, HA, HJ23, HB⟩ := hcut
              cases kq with
              | zero => exact absurd HA.out (by simp [scutagelaw07_GeoCells.j2])
              | succ kj23 =>
                have H := HA.out
                clear HA
                simp only [scutagelaw07_GeoCells.j2] at H
                by_cases c27 : x77_23 = true
                · subst c27
                  have H1 : (if t129 = 0 then (if t130 = true then (some false) else ((geo_Base.f a1 a3).bind fun t131 => (some (t131 == (-1))))) else (some false)) = some r := by rw [if_pos rfl] at H; exact H
                  clear H
                  have H := H1
                  clear H1
                  by_cases c28 : t129 = 0
                  · rw [if_pos c28] at H
                    have c28b0 : (t129 == 0) = true := beq_iff_eq.mpr c28
                    have c28b1 : (t129 != 0) = false := bne_eq_false_iff_eq.mpr c28
                    clear c28
                    by_cases c29 : t130 = true
                    · subst c29
                      have H1 : (some false) = some r := by rw [if_pos rfl] at H; exact H
                      clear H
                      have H := H1
                      clear H1
                      obtain rfl := Option.some.inj H
                      go_wp2
                      repeat (go_quiet (fail); try go_wp2)
                      go_ret
                      exact ⟨by first | rfl | (simp [errW_none, errW_some] <;> rfl) | (simp [*, errW_none, errW_some] <;> rfl) | (simp [*, Int.tdiv_eq_ediv_of_nonneg, errW_none, errW_some] <;> rfl), by repeat (first | (with_reducible first | exact HB.out | apply below_alloc | apply pw_below_drewN | apply below_drew1) | exact HB.out)⟩
                    · replace c29 := Bool.eq_false_iff.mpr c29
                      subst c29
                      have H1 : ((geo_Base.f a1 a3).bind fun t131 => (some (t131 == (-1)))) = some r := by rw [if_neg (show ¬ (false = true) by decide)] at H; exact H
                      clear H
                      have H := H1
                      clear H1
                      replace H := Option.bind_eq_some_iff.mp H
                      obtain ⟨t131, A300, H⟩ := H
                      replace H : (some (t131 == (-1))) = some r := H
                      have A30 := Aside0.mk A300
                      clear A300
                      obtain rfl := Option.some.inj H
                      go_wp2_with (first | (go_at_call 14; (with_reducible refine (geo_Base.calls a1 a3 t131 _ A30.out).mono ?_); rintro e w' ⟨rfl, ⟨nd, rfl⟩⟩; (try first | exact ⟨rfl, _, World.drewN_drewN _ _ _⟩ | exact ⟨rfl, _, Eq.trans (World.drewN_drewN _ _ _) (congrArg (World.drewN _) (Nat.add_assoc _ _ _))⟩)))
                      repeat (go_quiet (first | (go_at_call 14; (with_reducible refine (geo_Base.calls a1 a3 t131 _ A30.out).mono ?_); rintro e w' ⟨rfl, ⟨nd, rfl⟩⟩; (try first | exact ⟨rfl, _, World.drewN_drewN _ _ _⟩ | exact ⟨rfl, _, Eq.trans (World.drewN_drewN _ _ _) (congrArg (World.drewN _) (Nat.add_assoc _ _ _))⟩))); try go_wp2_with (first | (go_at_call 14; (with_reducible refine (geo_Base.calls a1 a3 t131 _ A30.out).mono ?_); rintro e w' ⟨rfl, ⟨nd, rfl⟩⟩; (try first | exact ⟨rfl, _, World.drewN_drewN _ _ _⟩ | exact ⟨rfl, _, Eq.trans (World.drewN_drewN _ _ _) (congrArg (World.drewN _) (Nat.add_assoc _ _ _))⟩))))
                      go_ret
                      exact ⟨by first | rfl | (simp [errW_none, errW_some] <;> rfl) | (simp [*, errW_none, errW_some] <;> rfl) | (simp [*, Int.tdiv_eq_ediv_of_nonneg, errW_none, errW_some] <;> rfl), by repeat (first | (with_reducible first | exact HB.out | apply below_alloc | apply pw_below_drewN | apply below_drew1) | exact HB.out)⟩
                  · rw [if_neg c28] at H
                    have c28b0 : (t129 == 0) = false := beq_eq_false_iff_ne.mpr c28
                    have c28b1 : (t129 != 0) = true := bne_iff_ne.mpr c28
                    obtain rfl := Option.some.inj H
                    go_wp2
                    repeat (go_quiet (fail); try go_wp2)
                    go_ret
                    exact ⟨by first | rfl | (simp [errW_none, errW_some] <;> rfl) | (simp [*, errW_none, errW_some] <;> rfl) | (simp [*, Int.tdiv_eq_ediv_of_nonneg, errW_none, errW_some] <;> rfl), by repeat (first | (with_reducible first | exact HB.out | apply below_alloc | apply pw_below_drewN | apply below_drew1) | exact HB.out)⟩
                · replace c27 := Bool.eq_false_iff.mpr c27
                  subst c27
                  have H1 : (if t125 = 0 then (none) else (if (Int.tmod a3 t125) = 0 then (if t130 = true then (if t129 = (wrap64 (Int.tdiv (Int.tmod a3 32) t125)) then ((geo_Base.f a1 a3).bind fun t132 => (some (t132 == a3))) else (some false)) else (some false)) else (if t129 = 0 then (if t130 = true then (some false) else ((geo_Base.f a1 a3).bind fun t133 => (some (t133 == (wrap64 (a3 - (Int.tmod a3 t125))))))) else (some false)))) = some r := by rw [if_neg (show ¬ (false = true) by decide)] at H; exact H
                  clear H
                  have H := H1
                  clear H1
                  by_cases c31 : t125 = 0
                  · rw [if_pos c31] at H
                    exact absurd H (by simp)
                  · rw [if_neg c31] at H
                    have c31b0 : (t125 == 0) = false := beq_eq_false_iff_ne.mpr c31
                    have c31b1 : (t125 != 0) = true := bne_iff_ne.mpr c31
                    by_cases c32 : (Int.tmod a3 t125) = 0
                    · rw [if_pos c32] at H
                      have c32b0 : ((Int.tmod a3 t125) == 0) = true := beq_iff_eq.mpr c32
                      have c32b1 : ((Int.tmod a3 t125) != 0) = false := bne_eq_false_iff_eq.mpr c32
                      clear c32
                      by_cases c33 : t130 = true
                      · subst c33
                        have H1 : (if t129 = (wrap64 (Int.tdiv (Int.tmod a3 32) t125)) then ((geo_Base.f a1 a3).bind fun t132 => (some (t132 == a3))) else (some false)) = some r := by rw [if_pos rfl] at H; exact H
                        clear H
                        have H := H1
                        clear H1
                        by_cases c34 : t129 = (wrap64 (Int.tdiv (Int.tmod a3 32) t125))
                        · rw [if_pos c34] at H
                          have c34b0 : (t129 == (wrap64 (Int.tdiv (Int.tmod a3 32) t125))) = true := beq_iff_eq.mpr c34
                          have c34b1 : (t129 != (wrap64 (Int.tdiv (Int.tmod a3 32) t125))) = false := bne_eq_false_iff_eq.mpr c34
                          clear c34
                          replace H := Option.bind_eq_some_iff.mp H
                          obtain ⟨t132, A350, H⟩ := H
                          replace H : (some (t132 == a3)) = some r := H
                          have A35 := Aside0.mk A350
                          clear A350
                          obtain rfl := Option.some.inj H
                          go_wp2_with (first | (go_at_call 14; (with_reducible refine (geo_Base.calls a1 a3 t132 _ A35.out).mono ?_); rintro e w' ⟨rfl, ⟨nd, rfl⟩⟩; (try first | exact ⟨rfl, _, World.drewN_drewN _ _ _⟩ | exact ⟨rfl, _, Eq.trans (World.drewN_drewN _ _ _) (congrArg (World.drewN _) (Nat.add_assoc _ _ _))⟩)))
                          repeat (go_quiet (first | (go_at_call 14; (with_reducible refine (geo_Base.calls a1 a3 t132 _ A35.out).mono ?_); rintro e w' ⟨rfl, ⟨nd, rfl⟩⟩; (try first | exact ⟨rfl, _, World.drewN_drewN _ _ _⟩ | exact ⟨rfl, _, Eq.trans (World.drewN_drewN _ _ _) (congrArg (World.drewN _) (Nat.add_assoc _ _ _))⟩))); try go_wp2_with (first | (go_at_call 14; (with_reducible refine (geo_Base.calls a1 a3 t132 _ A35.out).mono ?_); rintro e w' ⟨rfl, ⟨nd, rfl⟩⟩; (try first | exact ⟨rfl, _, World.drewN_drewN _ _ _⟩ | exact ⟨rfl, _, Eq.trans (World.drewN_drewN _ _ _) (congrArg (World.drewN _) (Nat.add_assoc _ _ _))⟩))))
                          go_ret
                          exact ⟨by first | rfl | (simp [errW_none, errW_some] <;> rfl) | (simp [*, errW_none, errW_some] <;> rfl) | (simp [*, Int.tdiv_eq_ediv_of_nonneg, errW_none, errW_some] <;> rfl), by repeat (first | (with_reducible first | exact HB.out | apply below_alloc | apply pw_below_drewN | apply below_drew1) | exact HB.out)⟩
                        · rw [if_neg c34] at H
                          have c34b0 : (t129 == (wrap64 (Int.tdiv (Int.tmod a3 32) t125))) = false := beq_eq_false_iff_ne.mpr c34
                          have c34b1 : (t129 != (wrap64 (Int.tdiv (Int.tmod a3 32) t125))) = true := bne_iff_ne.mpr c34
                          obtain rfl := Option.some.inj H
                          go_wp2
                          repeat (go_quiet (fail); try go_wp2)
                          go_ret
                          exact ⟨by first | rfl | (simp [errW_none, errW_some] <;> rfl) | (simp [*, errW_none, errW_some] <;> rfl) | (simp [*, Int.tdiv_eq_ediv_of_nonneg, errW_none, errW_some] <;> rfl), by repeat (first | (with_reducible first | exact HB.out | apply below_alloc | apply pw_below_drewN | apply below_drew1) | exact HB.out)⟩
                      · replace c33 := Bool.eq_false_iff.mpr c33
                        subst c33
                        have H1 : (some false) = some r := by rw [if_neg (show ¬ (false = true) by decide)] at H; exact H
                        clear H
                        have H := H1
                        clear H1
                        obtain rfl := Option.some.inj H
                        go_wp2
                        repeat (go_quiet (fail); try go_wp2)
                        go_ret
                        exact ⟨by first | rfl | (simp [errW_none, errW_some] <;> rfl) | (simp [*, errW_none, errW_some] <;> rfl) | (simp [*, Int.tdiv_eq_ediv_of_nonneg, errW_none, errW_some] <;> rfl), by repeat (first | (with_reducible first | exact HB.out | apply below_alloc | apply pw_below_drewN | apply below_drew1) | exact HB.out)⟩
                    · rw [if_neg c32] at H
                      have c32b0 : ((Int.tmod a3 t125) == 0) = false := beq_eq_false_iff_ne.mpr c32
                      have c32b1 : ((Int.tmod a3 t125) != 0) = true := bne_iff_ne.mpr c32
                      by_cases c36 : t129 = 0
                      · rw [if_pos c36] at H
                        have c36b0 : (t129 == 0) = true := beq_iff_eq.mpr c36
                        have c36b1 : (t129 != 0) = false := bne_eq_false_iff_eq.mpr c36
                        clear c36
                        by_cases c37 : t130 = true
                        · subst c37
                          have H1 : (some false) = some r := by rw [if_pos rfl] at H; exact H
                          clear H
                          have H := H1
                          clear H1
                          obtain rfl := Option.some.inj H
                          go_wp2
                          repeat (go_quiet (fail); try go_wp2)
                          go_ret
                          exact ⟨by first | rfl | (simp [errW_none, errW_some] <;> rfl) | (simp [*, errW_none, errW_some] <;> rfl) | (simp [*, Int.tdiv_eq_ediv_of_nonneg, errW_none, errW_some] <;> rfl), by repeat (first | (with_reducible first | exact HB.out | apply below_alloc | apply pw_below_drewN | apply below_drew1) | exact HB.out)⟩
                        · replace c37 := Bool.eq_false_iff.mpr c37
                          subst c37
                          have H1 : ((geo_Base.f a1 a3).bind fun t133 => (some (t133 == (wrap64 (a3 - (Int.tmod a3 t125)))))) = some r := by rw [if_neg (show ¬ (false = true) by decide)] at H; exact H
                          clear H
                          have H := H1
                          clear H1
                          replace H := Option.bind_eq_some_iff.mp H
                          obtain ⟨t133, A380, H⟩ := H
                          replace H : (some (t133 == (wrap64 (a3 - (Int.tmod a3 t125))))) = some r := H
                          have A38 := Aside0.mk A380
                          clear A380
                          obtain rfl := Option.some.inj H
                          go_wp2_with (first | (go_at_call 14; (with_reducible refine (geo_Base.calls a1 a3 t133 _ A38.out).mono ?_); rintro e w' ⟨rfl, ⟨nd, rfl⟩⟩; (try first | exact ⟨rfl, _, World.drewN_drewN _ _ _⟩ | exact ⟨rfl, _, Eq.trans (World.drewN_drewN _ _ _) (congrArg (World.drewN _) (Nat.add_assoc _ _ _))⟩)))
                          repeat (go_quiet (first | (go_at_call 14; (with_reducible refine (geo_Base.calls a1 a3 t133 _ A38.out).mono ?_); rintro e w' ⟨rfl, ⟨nd, rfl⟩⟩; (try first | exact ⟨rfl, _, World.drewN_drewN _ _ _⟩ | exact ⟨rfl, _, Eq.trans (World.drewN_drewN _ _ _) (congrArg (World.drewN _) (Nat.add_assoc _ _ _))⟩))); try go_wp2_with (first | (go_at_call 14; (with_reducible refine (geo_Base.calls a1 a3 t133 _ A38.out).mono ?_); rintro e w' ⟨rfl, ⟨nd, rfl⟩⟩; (try first | exact ⟨rfl, _, World.drewN_drewN _ _ _⟩ | exact ⟨rfl, _, Eq.trans (World.drewN_drewN _ _ _) (congrArg (World.drewN _) (Nat.add_assoc _ _ _))⟩))))
                          go_ret
                          exact ⟨by first | rfl | (simp [errW_none, errW_some] <;> rfl) | (simp [*, errW_none, errW_some] <;> rfl) | (simp [*, Int.tdiv_eq_ediv_of_nonneg, errW_none, errW_some] <;> rfl), by repeat (first | (with_reducible first | exact HB.out | apply below_alloc | apply pw_below_drewN | apply below_drew1) | exact HB.out)⟩
                      · rw [if_neg c36] at H
                        have c36b0 : (t129 == 0) = false := beq_eq_false_iff_ne.mpr c36
                        have c36b1 : (t129 != 0) = true := bne_iff_ne.mpr c36
                        obtain rfl := Option.some.inj H
                        go_wp2
                        repeat (go_quiet (fail); try go_wp2)
                        go_ret
                        exact ⟨by first | rfl | (simp [errW_none, errW_some] <;> rfl) | (simp [*, errW_none, errW_some] <;> rfl) | (simp [*, Int.tdiv_eq_ediv_of_nonneg, errW_none, errW_some] <;> rfl), by repeat (first | (with_reducible first | exact HB.out | apply below_alloc | apply pw_below_drewN | apply below_drew1) | exact HB.out)⟩
  · replace c6 := Bool.eq_false_iff.mpr c6
    subst c6
    have H1 : (some false) = some r := by rw [if_neg (show ¬ (false = true) by decide)] at H; exact H
    clear H
    have H := H1
    clear H1
    obtain rfl := Option.some.inj H
    go_enter Try.func4, Try.ntmps4
    go_wp2_with (first | (go_at_call 6; (with_reducible refine (scutagelaw07_alive.calls k  false _ A5.out).mono ?_); rintro e w' ⟨rfl, ⟨nd, rfl⟩⟩; (try first | exact ⟨rfl, _, World.drewN_drewN _ _ _⟩ | exact ⟨rfl, _, Eq.trans (World.drewN_drewN _ _ _) (congrArg (World.drewN _) (Nat.add_assoc _ _ _))⟩)))
    repeat (go_quiet (first | (go_at_call 6; (with_reducible refine (scutagelaw07_alive.calls k  false _ A5.out).mono ?_); rintro e w' ⟨rfl, ⟨nd, rfl⟩⟩; (try first | exact ⟨rfl, _, World.drewN_drewN _ _ _⟩ | exact ⟨rfl, _, Eq.trans (World.drewN_drewN _ _ _) (congrArg (World.drewN _) (Nat.add_assoc _ _ _))⟩))); try go_wp2_with (first | (go_at_call 6; (with_reducible refine (scutagelaw07_alive.calls k  false _ A5.out).mono ?_); rintro e w' ⟨rfl, ⟨nd, rfl⟩⟩; (try first | exact ⟨rfl, _, World.drewN_drewN _ _ _⟩ | exact ⟨rfl, _, Eq.trans (World.drewN_drewN _ _ _) (congrArg (World.drewN _) (Nat.add_assoc _ _ _))⟩))))
    go_ret
    exact ⟨by first | rfl | (simp [errW_none, errW_some] <;> rfl) | (simp [*, errW_none, errW_some] <;> rfl) | (simp [*, Int.tdiv_eq_ediv_of_nonneg, errW_none, errW_some] <;> rfl), by repeat (first | (with_reducible first | exact HB.out | apply below_alloc | apply pw_below_drewN | apply below_drew1) | exact HB.out)⟩

/-- THE ONE PURE STATEMENT of scutagelaw07_GeoCells: yours. -/
def scutagelaw07_GeoCells.Pure : Prop := ∀ (a0 : Int) (a1 : Int) (a2 : Int) (a3 : Int), (Lit.int .i64 a0).wf = true → (Lit.int .i64 a1).wf = true → (Lit.int .i64 a2).wf = true → (Lit.int .i64 a3).wf = true → ∃ k, scutagelaw07_GeoCells.f k a0 a1 a2 a3 = some true
theorem scutagelaw07_GeoCells.walk (P : scutagelaw07_GeoCells.Pure) (a0 : Int) (a1 : Int) (a2 : Int) (a3 : Int) (w : World) (w0 : (Lit.int .i64 a0).wf = true) (w1 : (Lit.int .i64 a1).wf = true) (w2 : (Lit.int .i64 a2).wf = true) (w3 : (Lit.int .i64 a3).wf = true) :
    Calls Try.prog 4 #[.int .i64 a0, .int .i64 a1, .int .i64 a2, .int .i64 a3] w fun e w' => e = .returned (.bool true) ∧ Below w.heap.size w w' := by
  obtain ⟨k, h⟩ := P a0 a1 a2 a3 w0 w1 w2 w3
  refine (scutagelaw07_GeoCells.calls k a0 a1 a2 a3 true w h).mono ?_
  rintro e w' ⟨rfl, hd⟩
  exact ⟨rfl, hd⟩

end Go.Proofs.Ytikoiaeoajbobaa.PGeoCells
