/- Proved: what windows, Least and Meets of package mmu hand back (walks over the range over a function). -/
import Derived.Test.YtknponfegoclcaaProg
import Derived.Below
import Derived.Deep.Draws
import Derived.Deep.AppendLies
import Derived.Maps.AppendAt
import Derived.OwnWalk
import Derived.Laws.BytesArg
import Derived.Laws.MakeOwn
import Derived.Laws.OwnMore
import Derived.Deep.OwnRows
import Derived.Tactics
import Derived.Lib.ConvBytes
import Derived.Laws.Slices
import Derived.WalkKit
import Derived.KernelRfl
import Derived.RowKit3
import Derived.Deep.LoopGhost
import Derived.Deep.QuietTactic
import Derived.BigQuiet
import Derived.WideLaws
import Derived.Deep.DeepCutAuto
import Derived.Deep.CutBlock
import Derived.Deep.RegionHeld3
import Derived.Laws.Rows
import Derived.Lib.AppendStr
import Derived.ArgAppend
import Derived.Laws.IdiomCopy
import Derived.OrdersHeld
import Derived.Laws.BitsLemmas
import Derived.RowKit
import Derived.Test.YtknponfegoclcaaWWords
import Derived.Test.YtknponfegoclcaaWLast
import Derived.Test.YtknponfegoclcaaWTab
import Derived.Test.YtknponfegoclcaaWFour
import Derived.Test.YtknponfegoclcaaWQPut
import Derived.Test.YtknponfegoclcaaWApart
import Derived.Test.YtknponfegoclcaaWArr
import Derived.Test.YtknponfegoclcaaWZeros
import Derived.Test.YtknponfegoclcaaWFoot
import Derived.Test.YtknponfegoclcaaWKept
import Derived.Test.YtknponfegoclcaaWShare
import Derived.Test.YtknponfegoclcaaWN
import Derived.Test.YtknponfegoclcaaWFootNe
import Derived.Test.YtknponfegoclcaaWAt
import Derived.Test.YtknponfegoclcaaWEqStruct
import Derived.Test.YtknponfegoclcaaWRepsOne
import Derived.Test.YtknponfegoclcaaWInv
import Derived.Test.YtknponfegoclcaaWInvWords
import Derived.Test.YtknponfegoclcaaWGuard
import Derived.Test.YtknponfegoclcaaWNEv
import Derived.Test.YtknponfegoclcaaWMore
import Derived.RangeFuncNested
import Derived.RangeFuncBound
import Derived.RangeFuncCalls
import Derived.RangeFuncLeaves
import Derived.RangeFuncFrom
import Derived.RangeFuncBox
import Derived.Shelf.Abstract
import Derived.Shelf.RegionOpen
import Derived.OwnWalkIn
import Derived.TacticsInMore
import Derived.LoopNIn
import Derived.LoopIn
import Derived.StillTailTactics
import Derived.OrdersIn
namespace Go.Proofs.Ytknponfegoclcaa.Mmu
open Go.RowKit Go.Proofs.YtknponfegoclcaaW.PrintWords Go.Proofs.YtknponfegoclcaaW.PrintLast Go.Proofs.YtknponfegoclcaaW.PrintMore
attribute [local go_sem] max2_int min2_int max_two min_two max_three min_three max_four min_four   -- for this text's walks alone
set_option linter.unusedVariables false
set_option linter.unusedSimpArgs false

theorem info3 : (Try.prog.info? 3).map (fun i => (i.zero, i.size, i.bytes)) = some (some (.int .i64 0), 1, 8) := by kernel_rfl
theorem info4 : (Try.prog.info? 4).map (fun i => (i.zero, i.size, i.bytes)) = some (some (.bool false), 1, 1) := by kernel_rfl
-- the values' own types

/-! ### mmu_counts: function 21 -/
def mmu_counts.l0 : Nat → List Int → List Bool → Int → Int → Option (List Int)
  | 0, _, _, _, _ => none
  | k + 1, x3, x8, x9, x10 => if x10 < x9 then (if 0 ≤ x10 then (if x10 < (x8.length : Int) then (if x10 < (x3.length : Int) then (if rdOf false x8 x10 = true then (if x3.length < 17592186044416 then (mmu_counts.l0 k (x3 ++ [wrap64 ((rd x3 x10) + 1)]) x8 x9 (wrap64 (x10 + 1))) else (none)) else (if x3.length < 17592186044416 then (mmu_counts.l0 k (x3 ++ [rd x3 x10]) x8 x9 (wrap64 (x10 + 1))) else (none))) else (none)) else (none)) else (none)) else (some x3)
def mmu_counts.f (k : Nat) (l0 : List Bool) : Option (List Int) := mmu_counts.l0 k (([0] : List Int)) l0 (l0.length : Int) 0
theorem mmu_counts.mono_l : ∀ k, (∀ y0 y1 y2 y3, LeO (mmu_counts.l0 k y0 y1 y2 y3) (mmu_counts.l0 (k + 1) y0 y1 y2 y3))
  | 0 => fun _ _ _ _ r h => by simp [mmu_counts.l0] at h
  | k + 1 => by
    have ih0 := mmu_counts.mono_l k
    · intro y0 y1 y2 y3
      unfold mmu_counts.l0
      repeat' first
      | (with_reducible exact ih0 _ _ _ _)
      | (with_reducible exact LeO.refl _)
      | (with_reducible exact LeO.none _)
      | (with_reducible refine LeO.ite ?_ ?_)
      | (with_reducible refine LeO.bind ?_ (fun _ => ?_))
      | exact ih0 _ _ _ _
      | exact LeO.none _
      | refine LeO.ite ?_ ?_
      | refine LeO.bind ?_ (fun _ => ?_)
theorem mmu_counts.mono : ∀ a0 k, LeO (mmu_counts.f k a0) (mmu_counts.f (k + 1) a0) := by
  intro a0 k
  have ih0 := mmu_counts.mono_l k
  unfold mmu_counts.f
  repeat' first
      | (with_reducible exact ih0 _ _ _ _)
      | (with_reducible exact LeO.refl _)
      | (with_reducible exact LeO.none _)
      | (with_reducible refine LeO.ite ?_ ?_)
      | (with_reducible refine LeO.bind ?_ (fun _ => ?_))
      | exact ih0 _ _ _ _
      | exact LeO.none _
      | refine LeO.ite ?_ ?_
      | refine LeO.bind ?_ (fun _ => ?_)
set_option maxHeartbeats 8000000 in
set_option maxRecDepth 100000 in
theorem mmu_counts.calls (k : Nat) (A0 : Option Addr) (c0 : Nat) (l0 : List Bool) (r : List Int) (w : World) (hr0 : Kd.C Kd.bool w A0 l0.length l0) (hc0 : l0.length ≤ c0) (h : mmu_counts.f k l0 = some r) :
    Calls Try.prog 21 #[.slice A0 l0.length c0] w fun e w' => ∃ v0_ : Value, e = .returned (v0_) ∧ Kd.R (Kd.int .i64) 3 w' w.heap.size (fun _ => True) v0_ r ∧ Below w.heap.size w w' := by
  have HR0 := Aside0.mk hr0
  have HC0 := Aside0.mk hc0
  clear hr0 hc0
  have HB := Aside0.mk (Below.refl w.heap.size w)
  have H : (mmu_counts.l0 k (([0] : List Int)) l0 (l0.length : Int) 0) = some r := h
  clear h
  obtain ⟨y101, hy101⟩ : ∃ y_ : List Int, y_ = (([0] : List Int)) := ⟨_, rfl⟩
  replace H : (mmu_counts.l0 k y101 l0 (l0.length : Int) 0) = some r := by first | (rw [hy101]; with_reducible exact H) | (have H2_ := (Option.bind_some _ _).symm.trans H; rw [hy101]; with_reducible exact H2_) | (have H2_ := (Option.bind_some _ _).symm.trans H; with_reducible exact H2_) | with_reducible exact H | (rw [hy101]; exact H) | exact H
  have Ny101 := Aside0.mk hy101
  clear hy101
  have H' := Aside0.mk H
  clear H
  go_enter Try.func21, Try.ntmps21
  go_wp2_with (first | ((with_reducible refine gate_dst (N := 7) rfl ?_); refine Kd.R_lit (Kd.int .i64) _ 3 ?hg (N := 7) ?hd (xs := ([0] : List Int)) (inner := [.int .i64 0]) (ok := fun _ => True) (okp := fun _ => True) ?hr ?hp (fun _ hk => hk) trivial (Below.refl _ _) (Nat.le_refl _) (by simp) ?_; (case hd => rfl); (case hg => rfl); (case hr => first | (go_simp; done) | (go_simp; rfl)); (case hp => exact (Reps.one (show Kd.M (Kd.int .i64) _ _ _ 0 [.int .i64 0] from rfl) (Reps.none _ _))); intro v102 w2 ho3 hb hg_ hnew_; clear hg_ hnew_; (first | rw [← Ny101.out] at ho3 | (simp only [Int.reduceToNat] at ho3; rw [← Ny101.out] at ho3)); have n0_ := Aside0.mk (Kd.R_lower ho3 (below_size (by repeat (first | (with_reducible first | exact HB.out | apply below_alloc | apply pw_below_drewN | apply below_drew1) | exact HB.out)))); have n1_ := Aside0.mk (below_step (by repeat (first | (with_reducible first | exact HB.out | apply below_alloc | apply pw_below_drewN | apply below_drew1) | exact HB.out)) hb); clear HB; have HO103 := n0_; have HB := n1_; clear n0_ n1_; clear hb ho3))
  go_loopg [3, 10] k (fun kq v3 v10 w' => ∃ (x3_1 : List Int) (x10_1 : Int), v10 = .int .i64 x10_1 ∧ Aside0 (mmu_counts.l0 kq x3_1 l0 (l0.length : Int) x10_1 = some r) ∧ Aside0 (kq ≤ k) ∧ Aside0 (Kd.R (Kd.int .i64) 3 w' w.heap.size (fun _ => True) v3 x3_1) ∧ Aside0 (Below w.heap.size w w'))
  case atStart => exact ⟨(y101), (0), (by first | rfl | (simp; done) | (simp [*]; done) | (simp [Int.tdiv_eq_ediv_of_nonneg]; done)), H', ⟨Nat.le_refl _⟩, ⟨by (with_reducible repeat (first | apply Kd.R_alloc | apply Kd.R_drewN | apply Kd.R_drew)); exact HO103.out⟩, ⟨by repeat (first | (with_reducible first | exact HB.out | apply below_alloc | apply pw_below_drewN | apply below_drew1) | exact HB.out)⟩⟩
  case round =>
    clear H'
    try clear c2
    try clear p2
    obtain ⟨x3_1, x10_1, rfl, HA, HK1, HO_3, HB⟩ := hrel
    cases gk with
    | zero => exact absurd HA.out (by simp [mmu_counts.l0])
    | succ k1 =>
      have H := HA.out
      clear HA
      simp only [mmu_counts.l0] at H
      by_cases c4 : x10_1 < (l0.length : Int)
      · rw [if_pos c4] at H
        have c4b0 : decide (x10_1 < (l0.length : Int)) = true := decide_eq_true c4
        clear c4
        by_cases c5 : 0 ≤ x10_1
        · rw [if_pos c5] at H
          have c5b0 : decide (0 ≤ x10_1) = true := decide_eq_true c5
          clear c5
          by_cases c6 : x10_1 < (l0.length : Int)
          · rw [if_pos c6] at H
            have c6b0 : decide (x10_1 < (l0.length : Int)) = true := decide_eq_true c6
            clear c6
            by_cases c7 : x10_1 < (x3_1.length : Int)
            · rw [if_pos c7] at H
              have c7b0 : decide (x10_1 < (x3_1.length : Int)) = true := decide_eq_true c7
              clear c7
              obtain ⟨bq8, hbq8⟩ : ∃ b_ : Bool, b_ = (rdOf false l0 x10_1) := ⟨_, rfl⟩
              replace H : (if bq8 = true then (if x3_1.length < 17592186044416 then (mmu_counts.l0 k1 (x3_1 ++ [wrap64 ((rd x3_1 x10_1) + 1)]) l0 (l0.length : Int) (wrap64 (x10_1 + 1))) else (none)) else (if x3_1.length < 17592186044416 then (mmu_counts.l0 k1 (x3_1 ++ [rd x3_1 x10_1]) l0 (l0.length : Int) (wrap64 (x10_1 + 1))) else (none))) = some r := by rw [← hbq8] at H; exact H
              have Nbq8 := Aside0.mk hbq8
              clear hbq8
              by_cases c9 : bq8 = true
              · subst c9
                have H1 : (if x3_1.length < 17592186044416 then (mmu_counts.l0 k1 (x3_1 ++ [wrap64 ((rd x3_1 x10_1) + 1)]) l0 (l0.length : Int) (wrap64 (x10_1 + 1))) else (none)) = some r := by rw [if_pos rfl] at H; exact H
                clear H
                have H := H1
                clear H1
                by_cases c10 : x3_1.length < 17592186044416
                · rw [if_pos c10] at H
                  have LMc10 := Aside0.mk c10
                  clear c10
                  obtain ⟨y106, hy106⟩ : ∃ y_ : List Int, y_ = (x3_1 ++ [wrap64 ((rd x3_1 x10_1) + 1)]) := ⟨_, rfl⟩
                  replace H : (mmu_counts.l0 k1 y106 l0 (l0.length : Int) (wrap64 (x10_1 + 1))) = some r := by first | (rw [hy106]; with_reducible exact H) | (have H2_ := (Option.bind_some _ _).symm.trans H; rw [hy106]; with_reducible exact H2_) | (have H2_ := (Option.bind_some _ _).symm.trans H; with_reducible exact H2_) | with_reducible exact H | (rw [hy106]; exact H) | exact H
                  have Ny106 := Aside0.mk hy106
                  clear hy106
                  have H' := Aside0.mk H
                  clear H
                  have p104 : 0 ≤ (x10_1 : Int) := of_decide_eq_true (by first | (with_reducible assumption) | assumption)
                  have q104 : x10_1 < (l0.length : Int) := of_decide_eq_true (by first | (with_reducible assumption) | assumption)
                  obtain ⟨ad104, e104, hx104_0⟩ := Kd.at_bool HR0.out x10_1 p104 q104
                  (try rw [← Nbq8.out] at hx104_0)
                  cases e104
                  replace hx104_0 := (HB.out.cell (World.block_lt_of_cell? w _ hx104_0)).trans hx104_0
                  replace p104 := eq_true p104
                  replace q104 := eq_true q104
                  obtain ⟨Ao11, co11, eo11⟩ := Kd.R_slice HO_3.out
                  subst eo11
                  have p105 : 0 ≤ (x10_1 : Int) := of_decide_eq_true (by first | (with_reducible assumption) | assumption)
                  have q105 : x10_1 < (x3_1.length : Int) := of_decide_eq_true (by first | (with_reducible assumption) | assumption)
                  obtain ⟨ad105, e105, hx105_0⟩ := Kd.at_int (Kd.R_reads' HO_3.out).2.2 x10_1 p105 q105
                  cases e105
                  replace p105 := eq_true p105
                  replace q105 := eq_true q105
                  go_wp2_with (first | ((with_reducible refine gate_builtin (b := .append) (xs := #[.tmp 22, .tmp 24]) rfl ?_); at_builtin; refine Kd.R_append (Kd.int .i64) (w0 := w) w.heap.size rfl (.tmp 22) (.tmp 24) 25 3 (.int .i64 0) 8 rfl Try.underlying25 info3 rfl (by decide) (by omega) (.slice (some ad105) x3_1.length co11) x3_1 (wrap64 ((rd x3_1 x10_1) + 1)) [.int .i64 (wrap64 ((rd x3_1 x10_1) + 1))] (fun _ => True) (fun _ => False) rfl rfl ?aP (fun _ hk => hk.elim) ?aF ?aO ?aB ?aS ?aL ?_; (case aP => exact rfl); (case aB => exact (by repeat (first | (with_reducible first | exact HB.out | apply below_alloc | apply pw_below_drewN | apply below_drew1) | exact HB.out))); (case aF => exact (fun _ _ => trivial)); (case aO => exact (by (with_reducible repeat (first | apply Kd.R_alloc | apply Kd.R_drewN | apply Kd.R_drew)); exact HO_3.out)); (case aS => exact (below_size (by repeat (first | (with_reducible first | exact HB.out | apply below_alloc | apply pw_below_drewN | apply below_drew1) | exact HB.out)))); (case aL => have := LMc10.out; omega); intro v107 w12 ho hb hg hat; rw [← Ny106.out] at ho; have n0_ := Aside0.mk (hb); have n1_ := Aside0.mk (ho); clear HB; clear HO_3; have HB := n0_; have HO108 := n1_; clear n0_ n1_; clear ho hb hg hat))
                  go_roundg k1
                  case measure => have := HK1.out; omega
                  case rel => exact ⟨(y106), (wrap64 (x10_1 + 1)), (by first | rfl | (simp; done) | (simp [*]; done) | (simp [Int.tdiv_eq_ediv_of_nonneg]; done)), H', ⟨by have := HK1.out; omega⟩, ⟨by (with_reducible repeat (first | apply Kd.R_alloc | apply Kd.R_drewN | apply Kd.R_drew)); exact HO108.out⟩, ⟨by repeat (first | (with_reducible first | exact HB.out | apply below_alloc | apply pw_below_drewN | apply below_drew1) | exact HB.out)⟩⟩
                · rw [if_neg c10] at H
                  exact absurd H (by simp)
              · replace c9 := Bool.eq_false_iff.mpr c9
                subst c9
                have H1 : (if x3_1.length < 17592186044416 then (mmu_counts.l0 k1 (x3_1 ++ [rd x3_1 x10_1]) l0 (l0.length : Int) (wrap64 (x10_1 + 1))) else (none)) = some r := by rw [if_neg (show ¬ (false = true) by decide)] at H; exact H
                clear H
                have H := H1
                clear H1
                by_cases c13 : x3_1.length < 17592186044416
                · rw [if_pos c13] at H
                  have LMc13 := Aside0.mk c13
                  clear c13
                  obtain ⟨y109, hy109⟩ : ∃ y_ : List Int, y_ = (x3_1 ++ [rd x3_1 x10_1]) := ⟨_, rfl⟩
                  replace H : (mmu_counts.l0 k1 y109 l0 (l0.length : Int) (wrap64 (x10_1 + 1))) = some r := by first | (rw [hy109]; with_reducible exact H) | (have H2_ := (Option.bind_some _ _).symm.trans H; rw [hy109]; with_reducible exact H2_) | (have H2_ := (Option.bind_some _ _).symm.trans H; with_reducible exact H2_) | with_reducible exact H | (rw [hy109]; exact H) | exact H
                  have Ny109 := Aside0.mk hy109
                  clear hy109
                  have H' := Aside0.mk H
                  clear H
                  have p104 : 0 ≤ (x10_1 : Int) := of_decide_eq_true (by first | (with_reducible assumption) | assumption)
                  have q104 : x10_1 < (l0.length : Int) := of_decide_eq_true (by first | (with_reducible assumption) | assumption)
                  obtain ⟨ad104, e104, hx104_0⟩ := Kd.at_bool HR0.out x10_1 p104 q104
                  (try rw [← Nbq8.out] at hx104_0)
                  cases e104
                  replace hx104_0 := (HB.out.cell (World.block_lt_of_cell? w _ hx104_0)).trans hx104_0
                  replace p104 := eq_true p104
                  replace q104 := eq_true q104
                  obtain ⟨Ao14, co14, eo14⟩ := Kd.R_slice HO_3.out
                  subst eo14
                  have p105 : 0 ≤ (x10_1 : Int) := of_decide_eq_true (by first | (with_reducible assumption) | assumption)
                  have q105 : x10_1 < (x3_1.length : Int) := of_decide_eq_true (by first | (with_reducible assumption) | assumption)
                  obtain ⟨ad105, e105, hx105_0⟩ := Kd.at_int (Kd.R_reads' HO_3.out).2.2 x10_1 p105 q105
                  cases e105
                  replace p105 := eq_true p105
                  replace q105 := eq_true q105
                  go_wp2_with (first | ((with_reducible refine gate_builtin (b := .append) (xs := #[.tmp 22, .tmp 24]) rfl ?_); at_builtin; refine Kd.R_append (Kd.int .i64) (w0 := w) w.heap.size rfl (.tmp 22) (.tmp 24) 25 3 (.int .i64 0) 8 rfl Try.underlying25 info3 rfl (by decide) (by omega) (.slice (some ad105) x3_1.length co14) x3_1 (rd x3_1 x10_1) [.int .i64 (rd x3_1 x10_1)] (fun _ => True) (fun _ => False) rfl rfl ?aP (fun _ hk => hk.elim) ?aF ?aO ?aB ?aS ?aL ?_; (case aP => exact rfl); (case aB => exact (by repeat (first | (with_reducible first | exact HB.out | apply below_alloc | apply pw_below_drewN | apply below_drew1) | exact HB.out))); (case aF => exact (fun _ _ => trivial)); (case aO => exact (by (with_reducible repeat (first | apply Kd.R_alloc | apply Kd.R_drewN | apply Kd.R_drew)); exact HO_3.out)); (case aS => exact (below_size (by repeat (first | (with_reducible first | exact HB.out | apply below_alloc | apply pw_below_drewN | apply below_drew1) | exact HB.out)))); (case aL => have := LMc13.out; omega); intro v110 w15 ho hb hg hat; rw [← Ny109.out] at ho; have n0_ := Aside0.mk (hb); have n1_ := Aside0.mk (ho); clear HB; clear HO_3; have HB := n0_; have HO111 := n1_; clear n0_ n1_; clear ho hb hg hat))
                  go_roundg k1
                  case measure => have := HK1.out; omega
                  case rel => exact ⟨(y109), (wrap64 (x10_1 + 1)), (by first | rfl | (simp; done) | (simp [*]; done) | (simp [Int.tdiv_eq_ediv_of_nonneg]; done)), H', ⟨by have := HK1.out; omega⟩, ⟨by (with_reducible repeat (first | apply Kd.R_alloc | apply Kd.R_drewN | apply Kd.R_drew)); exact HO111.out⟩, ⟨by repeat (first | (with_reducible first | exact HB.out | apply below_alloc | apply pw_below_drewN | apply below_drew1) | exact HB.out)⟩⟩
                · rw [if_neg c13] at H
                  exact absurd H (by simp)
            · rw [if_neg c7] at H
              exact absurd H (by simp)
          · rw [if_neg c6] at H
            exact absurd H (by simp)
        · rw [if_neg c5] at H
          exact absurd H (by simp)
      · rw [if_neg c4] at H
        have c4b0 : decide (x10_1 < (l0.length : Int)) = false := decide_eq_false c4
        clear c4
        obtain rfl := Option.some.inj H
        go_wp2
        go_ret
        exact ⟨_, by first | rfl | (simp [errW_none, errW_some] <;> rfl) | (simp [*, errW_none, errW_some] <;> rfl) | (simp [*, Int.tdiv_eq_ediv_of_nonneg, errW_none, errW_some] <;> rfl), by (with_reducible repeat (first | apply Kd.R_alloc | apply Kd.R_drewN | apply Kd.R_drew)); exact HO_3.out, by repeat (first | (with_reducible first | exact HB.out | apply below_alloc | apply pw_below_drewN | apply below_drew1) | exact HB.out)⟩

-- NOT PRINTED: function 19 (mmu_windows)

/-! ### calc_Clamp: function 23 -/
def calc_Clamp.f (a0 : Int) (a1 : Int) (a2 : Int) : Option (Int) := if a0 < a1 then (some a1) else (if a0 > a2 then (some a2) else (some a0))
set_option maxHeartbeats 8000000 in
set_option maxRecDepth 100000 in
theorem calc_Clamp.calls (a0 : Int) (a1 : Int) (a2 : Int) (r : Int) (w : World) (h : calc_Clamp.f a0 a1 a2 = some r) :
    Calls Try.prog 23 #[.int .i64 a0, .int .i64 a1, .int .i64 a2] w fun e w' => e = .returned (.int .i64 r) ∧ Drawn0 w w' := by
  have H : (if a0 < a1 then (some a1) else (if a0 > a2 then (some a2) else (some a0))) = some r := h
  clear h
  by_cases c4 : a0 < a1
  · rw [if_pos c4] at H
    have c4b0 : decide (a0 < a1) = true := decide_eq_true c4
    clear c4
    obtain rfl := Option.some.inj H
    go_enter Try.func23, Try.ntmps23
    go_wp2
    go_ret
    exact ⟨by first | rfl | (simp; done) | (simp [*]; done) | (simp [Int.tdiv_eq_ediv_of_nonneg]; done), by repeat (first | exact Drawn0.refl _ | apply Drawn0.step)⟩
  · rw [if_neg c4] at H
    have c4b0 : decide (a0 < a1) = false := decide_eq_false c4
    clear c4
    by_cases c5 : a0 > a2
    · rw [if_pos c5] at H
      have c5b0 : decide (a2 < a0) = true := decide_eq_true c5
      clear c5
      obtain rfl := Option.some.inj H
      go_enter Try.func23, Try.ntmps23
      go_wp2
      go_ret
      exact ⟨by first | rfl | (simp; done) | (simp [*]; done) | (simp [Int.tdiv_eq_ediv_of_nonneg]; done), by repeat (first | exact Drawn0.refl _ | apply Drawn0.step)⟩
    · rw [if_neg c5] at H
      have c5b0 : decide (a2 < a0) = false := decide_eq_false c5
      clear c5
      obtain rfl := Option.some.inj H
      go_enter Try.func23, Try.ntmps23
      go_wp2
      go_ret
      exact ⟨by first | rfl | (simp; done) | (simp [*]; done) | (simp [Int.tdiv_eq_ediv_of_nonneg]; done), by repeat (first | exact Drawn0.refl _ | apply Drawn0.step)⟩

/-! ### mmu_size: function 20 -/
def mmu_size.f (a0 : Int) : Option (Int) := (calc_Clamp.f a0 1 64).bind fun t119 => (some t119)
set_option maxHeartbeats 8000000 in
set_option maxRecDepth 100000 in
theorem mmu_size.calls (a0 : Int) (r : Int) (w : World) (h : mmu_size.f a0 = some r) :
    Calls Try.prog 20 #[.int .i64 a0] w fun e w' => e = .returned (.int .i64 r) ∧ Drawn0 w w' := by
  have H : ((calc_Clamp.f a0 1 64).bind fun t119 => (some t119)) = some r := h
  clear h
  replace H := Option.bind_eq_some_iff.mp H
  obtain ⟨t119, A20, H⟩ := H
  replace H : (some t119) = some r := H
  have A2 := Aside0.mk A20
  clear A20
  obtain rfl := Option.some.inj H
  go_enter Try.func20, Try.ntmps20
  go_wp2_with (first | ((with_reducible refine gate_callee (f := 23) rfl ?_); refine goesL_ (some 4) rfl rfl Try.func23 (by kernel_rfl) rfl #[.int .i64 a0, .int .i64 1, .int .i64 64] rfl (by (try simp only [List.map_toArray, List.map_cons, List.map_nil]); first | done | rfl | (simp only [List.length_drop, List.length_take]; rfl)) ?_; (with_reducible refine (calc_Clamp.calls a0 1 64 t119 _ A2.out).mono ?_); rintro e w' ⟨rfl, ⟨nd, rfl⟩⟩; refine ⟨_, rfl, ?_⟩))
  go_ret
  exact ⟨by first | rfl | (simp; done) | (simp [*]; done) | (simp [Int.tdiv_eq_ediv_of_nonneg]; done), by repeat (first | exact Drawn0.refl _ | apply Drawn0.step)⟩

/-! ### by hand -/
theorem cell_new_l (W : World) (v : Value) (t : TypeId) : (W.alloc (.cells #[v] t)).cell? ⟨W.heap.size, 0, none⟩ = some v ∧ (W.alloc (.cells #[v] t)).frozen? ⟨W.heap.size, 0, none⟩ = false := by
  have h : (W.alloc (.cells #[v] t)).heap[W.heap.size]? = some (.cells #[v] t) := World.alloc_heap_new W _
  exact ⟨by unfold World.cell?; rw [h]; rfl, by unfold World.frozen?; rw [h]; rfl⟩
theorem cell_alloc_l {W : World} {a : Addr} {v : Value} (o : Obj) (h : W.cell? a = some v) : (W.alloc o).cell? a = some v := cell_kept h (World.grownBy_alloc W o none) (fun r e => by cases e)
theorem frozen_alloc_l {W : World} {a : Addr} {v : Value} (o : Obj) (h : W.cell? a = some v) (hf : W.frozen? a = false) : (W.alloc o).frozen? a = false := (frozen_kept h (World.grownBy_alloc W o none) (fun r e => by cases e)).trans hf
open Go.Shelf
attribute [local go_sem] Oper.semAt_some

/-! ### a region of which all operations but the last few leave the world alone, inside the wide fence -/
section
variable {n : Nat} {P : Program} {ops : Array Oper} {md : Region.Mode} {w : World}
theorem wpIn_of_still {o : Oper} {a : Act} {K : Act → Prop} {K' : Act → World → Prop} {Q' : Exit → Act → World → Prop} (h : ∀ a, K a → K' a w) (hh : o.still P a w K) : o.wpIn Fence.wide n P a w K' Q' := by
  unfold Oper.still at hh
  unfold Oper.wpIn
  refine ⟨fun _ _ => trivial, ?_⟩
  rw [show Fence.wide.round = none from rfl, Oper.semAt_none]
  generalize (execOp a.eval o).run P w = r at *
  cases r with
  | ok x w' =>
    cases x <;> simp only [Oper.stillUpon] at hh <;> simp only [Oper.uponIn]
    case enter f args =>
      obtain ⟨rfl, v, hc, hn⟩ := hh
      exact ⟨fun h => by simp [Fence.wide] at h, (callsIn_wide.2 hc).mono fun e w'' ⟨he, hw⟩ => by subst he; subst hw; exact h _ hn⟩
    all_goals (obtain ⟨rfl, h2⟩ := hh; exact h _ h2)
  | halt x w' => simp only [Oper.stillUpon] at hh
theorem wpOpIn_of_stOp {i : Nat} {a : Act} {K : Act → Prop} {K' : Act → World → Prop} {Q' : Exit → Act → World → Prop} (h : ∀ a, K a → K' a w) (hh : stOp P ops w i K a) : wpOpIn Fence.wide n P ops Q' i K' a w := by
  unfold stOp at hh
  unfold wpOpIn
  split
  · rename_i ho; simp only [ho] at hh; exact h _ hh
  · rename_i o ho
    simp only [ho] at hh
    split
    · rename_i hw; simp only [hw, if_true] at hh; exact wpIn_of_still h hh
    · rename_i hw; simp only [hw] at hh; exact ⟨fun _ _ => trivial, h _ hh⟩
theorem wpAnyIn_of_head {m g : Nat} {L : Array Bool → Act → Prop} {Q' : Exit → Act → World → Prop} (hL : ∀ listed a, L listed a → wpAnyIn Fence.wide n P md ops Q' g listed a w) :
    ∀ (f : Nat) (listed : Array Bool) (a : Act), wpAnyL P md ops w m L f listed a → wpAnyIn Fence.wide n P md ops Q' (f + g) listed a w
  | 0, listed, a, h => by rw [Nat.zero_add]; exact hL _ _ h
  | f + 1, listed, a, h => by
    rw [show f + 1 + g = (f + g) + 1 by omega]
    exact ⟨fun h0 => absurd h0 h.1, fun i hi => wpOpIn_of_stOp (fun a' h' => wpAnyIn_of_head hL f _ a' h') (h.2 i hi).2⟩
theorem wpAnyIn_of_seq {Q' : Exit → Act → World → Prop} : ∀ (l : List Oper) (k : Nat) (listed : Array Bool) (a : Act) (w : World), (∀ j, l[j]? = ops[k + j]?) →
    Region.seqB md ops l.length k listed = true → wpListIn Fence.wide n P ops Q' l a w → wpAnyIn Fence.wide n P md ops Q' l.length listed a w
  | [], _, _, _, _, _, hB, h => ⟨by simpa [Region.seqB] using hB, h⟩
  | o :: l, k, listed, a, w, hl, hB, h => by
    have h0 : ops[k]? = some o := by simpa using (hl 0).symm
    simp only [List.length_cons, Region.seqB, Bool.and_eq_true, decide_eq_true_eq] at hB
    refine ⟨fun h1 => (by rw [hB.1] at h1; cases h1), fun i hi => ?_⟩
    rw [hB.1] at hi
    have hik : i = k := by simpa using hi
    subst hik
    have hw : wpOpIn Fence.wide n P ops Q' i (wpListIn Fence.wide n P ops Q' l) a w := by unfold wpOpIn; simp only [h0]; exact h
    exact wpOpIn_mono (fun a' w' h' => wpAnyIn_of_seq l (i + 1) _ a' w' (fun j => by have := hl (j + 1); simpa [Nat.add_assoc, Nat.add_comm 1 j] using this) hB.2 h') hw
theorem wpIn_region_still_tail {id : Nat} {Q : Exit → Act → World → Prop} {a : Act} {w : World} {l : List Oper} (m : Nat) (hm : P.follows .mixedOrders = true) (hB : Region.lexTailB .any l.toArray m = true)
    (h : wpStill P l.toArray w.drew (fun a' => wpListIn Fence.wide n P l.toArray Q (l.drop m) a' w.drew) (l.take m) a) : (Code.region id l.toArray true).wpIn Fence.wide n P Q a w := by
  simp only [Region.lexTailB, Bool.and_eq_true, decide_eq_true_eq] at hB
  obtain ⟨⟨⟨⟨hsel, hn⟩, hs⟩, hc⟩, hlex⟩ := hB
  have hn' : m < l.length := by simpa using hn
  have htl : (l.take m).length = m := by simp; omega
  have hdl : (l.drop m).length = l.toArray.size - m := by simp
  have inv0 : HeadInv .any l.toArray m (Array.replicate l.toArray.size false) :=
    ⟨by simp, fun j oj _ hl => (by rw [getD_replicate_false] at hl; cases hl), fun t _ ht => getD_in (by simpa using ht) (getD_replicate_false _ _)⟩
  have H := wpAnyL_lex (md := .any) (g := l.toArray.size - m) hsel hs hc hn (l.take m) 0 _ a (fun j hj => by
    have hj' : j < m := by rw [htl] at hj; exact hj
    simp [hj']) (by simpa using htl) inv0 (by rw [htl]; exact hlex) h
  refine wpIn_region_any hm ?_
  have := wpAnyIn_of_head (n := n) (Q' := Q) (g := l.toArray.size - m) (fun listed a' hL => by
    have := wpAnyIn_of_seq (n := n) (md := .any) (Q' := Q) (l.drop m) m listed a' w.drew (fun j => by simp [List.getElem?_drop]) (by rw [hdl]; exact hL.1) hL.2
    rwa [hdl] at this) _ _ _ H
  rw [htl, show m + (l.toArray.size - m) = l.toArray.size by omega] at this
  exact this
end

/-- how many of the first i letters are the collector's, for each i -/
def cnt (l : List Bool) (i : Nat) : Int := ((l.take i).count true : Nat)
def cntL (l : List Bool) : List Int := (List.range (l.length + 1)).map (cnt l)
def upto (f : Nat → Int) (k : Nat) : List Int := (List.range k).map f
theorem upto_succ (f : Nat → Int) (k : Nat) : upto f (k + 1) = upto f k ++ [f k] := by simp [upto, List.range_succ]
theorem upto_length (f : Nat → Int) (k : Nat) : (upto f k).length = k := by simp [upto]
theorem cntL_length (l : List Bool) : (cntL l).length = l.length + 1 := by simp [cntL]
theorem cnt_le (l : List Bool) (i : Nat) : 0 ≤ cnt l i ∧ cnt l i ≤ i := by
  unfold cnt
  have := List.count_le_length (a := true) (l := l.take i)
  rw [List.length_take] at this
  omega
theorem cnt_succ (l : List Bool) (i : Nat) (h : i < l.length) : cnt l (i + 1) = cnt l i + (if l[i] then 1 else 0) := by
  unfold cnt
  rw [List.take_succ_eq_append_getElem h, List.count_append]
  cases l[i] <;> simp

theorem counts_go (l : List Bool) (hl : l.length < 17592186044415) : ∀ d i : Nat, i + d = l.length → ∃ k, mmu_counts.l0 k (upto (cnt l) (i + 1)) l (l.length : Int) (i : Int) = some (cntL l) := by
  intro d
  induction d with
  | zero =>
    intro i hi
    refine ⟨1, ?_⟩
    simp only [mmu_counts.l0]
    rw [if_neg (by omega)]
    obtain rfl : i = l.length := by omega
    rfl
  | succ d ih =>
    intro i hi
    obtain ⟨k, hk⟩ := ih (i + 1) (by omega)
    refine ⟨k + 1, ?_⟩
    have hlt : i < l.length := by omega
    have hr : rdOf false l (i : Int) = l[i] := by simp [rdOf, hlt]
    have hx : rd (upto (cnt l) (i + 1)) (i : Int) = cnt l i := by simp [rd, upto]
    have hle := cnt_le l i
    have hc := cnt_succ l i hlt
    simp only [mmu_counts.l0]
    rw [if_pos (by omega), if_pos (by omega), if_pos (by omega), if_pos (by rw [upto_length]; omega), hr, hx, upto_length]
    rw [upto_succ] at hk
    have hw : wrap64 ((i : Int) + 1) = ((i + 1 : Nat) : Int) := by unfold wrap64; omega
    have hw2 : wrap64 (cnt l i + 1) = cnt l i + 1 := by clear hc; unfold wrap64; omega
    rw [hw, hw2]
    cases hb : l[i] with
    | false =>
      rw [if_neg (by simp), if_pos (by omega)]
      have e : cnt l (i + 1) = cnt l i := by rw [hc, hb]; simp
      rw [e] at hk; exact hk
    | true =>
      rw [if_pos rfl, if_pos (by omega)]
      have e : cnt l (i + 1) = cnt l i + 1 := by rw [hc, hb]; simp
      rw [e] at hk; exact hk
theorem counts_f (l : List Bool) (hl : l.length < 17592186044415) : ∃ k, mmu_counts.f k l = some (cntL l) := counts_go l hl l.length 0 (by omega)

/-! ### windows -/
def WinPost (l : List Bool) (n : Int) (w : World) (e : Ending) (w' : World) : Prop :=
  ∃ b d c, e = .returned (.func (.func 22) #[] #[.pointer (some ⟨w.heap.size, 0, none⟩), .pointer (some ⟨b, 0, none⟩)]) ∧ w'.cell? ⟨w.heap.size, 0, none⟩ = some (.int .i64 n) ∧
    w'.cell? ⟨b, 0, none⟩ = some (.slice (some ⟨d, 0, none⟩) (l.length + 1) c) ∧ (∀ j, j < l.length + 1 → w'.cell? ⟨d, j, none⟩ = some (.int .i64 (cnt l j))) ∧ b < w'.heap.size ∧ d < w'.heap.size ∧ w.heap.size < w'.heap.size ∧ w.heap.size ≤ b ∧ w.heap.size ≤ d ∧ Below w.heap.size w w'

/-- a row that is the call's own and has an element -/
theorem row_at {w : World} {base : Nat} {v : Value} {xs : List Int} (h : Kd.R (Kd.int .i64) 3 w base (fun _ => True) v xs) (h0 : 0 < xs.length) :
    ∃ d c, v = .slice (some ⟨d, 0, none⟩) xs.length c ∧ d < w.heap.size ∧ base ≤ d ∧ ∀ j, j < xs.length → w.cell? ⟨d, j, none⟩ = some (.int .i64 (xs[j]?.getD 0)) := by
  have h' := h
  obtain ⟨_, inner, hown, hr⟩ := h
  rcases hown.2 with ⟨_, h1⟩ | ⟨g, cap, cur, rfl, hb, hh, _⟩
  · omega
  · refine ⟨g, cap, rfl, (Array.getElem?_eq_some_iff.1 hh).1, hb, fun j hj => ?_⟩
    have := (Kd.R_cell (0 : Int) h' (j : Int) (by omega) (by omega)).1
    simpa [rdOf] using this
theorem cntL_at (l : List Bool) (j : Nat) (hj : j < l.length + 1) : (cntL l)[j]?.getD 0 = cnt l j := by simp [cntL, hj]

set_option maxHeartbeats 2000000 in
theorem windows_calls (A0 : Option Addr) (c0 : Nat) (l : List Bool) (n : Int) (w : World) (hr0 : Kd.C Kd.bool w A0 l.length l) (hc0 : l.length ≤ c0) (hl : l.length < 17592186044415) :
    Calls Try.prog 19 #[.slice A0 l.length c0, .int .i64 n] w (WinPost l n w) := by
  obtain ⟨k, hk⟩ := counts_f l hl
  have HK := Aside0.mk hk
  have HR := Aside0.mk hr0
  clear hk hr0
  go_enter Try.func19, Try.ntmps19
  go_wp2_with (go_at_call 21; refine (mmu_counts.calls k A0 c0 l (cntL l) _ ?hr hc0 HK.out).mono ?_; (case hr => exact Kd.C_alloc HR.out _); rintro e w' ⟨v0_, rfl, hR, hB⟩; clear HR; obtain ⟨d, c, rfl, hd, hbd, hcs⟩ := row_at hR (by rw [cntL_length]; omega); replace hR := Aside0.mk hR; rw [cntL_length] at hcs ⊢)
  go_ret
  have hx := hB.cell (p := ⟨w.heap.size, 0, none⟩) (by simp)
  have hB2 : Below w.heap.size w w' := ((Below.refl _ w).alloc (Nat.le_refl _) _).trans (hB.mono (by simp))
  have hx2 : w'.cell? ⟨w.heap.size, 0, none⟩ = some (.int .i64 n) := hx.trans (cell_new_l w (.int .i64 n) 3).1
  have hN := cell_new_l w' (.slice (some ⟨d, 0, none⟩) (l.length + 1) c) 25
  have hsz := hB.size
  simp at hsz
  refine ⟨w'.heap.size, d, c, rfl, cell_alloc_l _ hx2, hN.1, fun j hj => cell_alloc_l _ ((hcs j hj).trans (by rw [cntL_at l j hj])), by simp, by simp; omega, by simp; omega, by omega, by simp at hbd; omega, hB2.alloc (by omega) _⟩

/-- blocks from lo on, below hi, are kept -/
def Kp (lo hi : Nat) (A B : World) : Prop := ∀ k, lo ≤ k → k < hi → B.heap[k]? = A.heap[k]?
theorem Kp.refl (lo hi : Nat) (A : World) : Kp lo hi A A := fun _ _ _ => rfl
theorem Kp.trans {lo hi : Nat} {A B C : World} (h : Kp lo hi A B) (k : Kp lo hi B C) : Kp lo hi A C := fun i h1 h2 => (k i h1 h2).trans (h i h1 h2)
theorem Kp.cell {lo hi : Nat} {A B : World} (h : Kp lo hi A B) {b o : Nat} (h1 : lo ≤ b) (h2 : b < hi) : B.cell? ⟨b, o, none⟩ = A.cell? ⟨b, o, none⟩ := World.cell?_of_block (h b h1 h2)
theorem Kp.put {lo hi l : Nat} (W : World) (o' : Obj) (h : hi ≤ l) : Kp lo hi W (W.putObj l o') := fun k _ hk => World.putObj_heap_other (by omega)
theorem Kp.set {lo hi b o : Nat} (W : World) (v : Value) (h : b < lo) : Kp lo hi W (W.setCell ⟨b, o, none⟩ v) := fun k hk _ => Below.heap_setCell W _ v k (by simp; omega)

def winF (l : List Bool) (m : Nat) (j : Nat) : Int := wrap64 (cnt l (m + j) - cnt l j)

set_option maxRecDepth 100000 in
set_option maxHeartbeats 4000000 in
/-- windows's closure: for every loop body that keeps what lay below n₀ -/
theorem win1_in (n : Nat) (hn : 1 ≤ n) (y lo hi Bn Bc d cap m : Nat) (l : List Bool) (hl : l.length < 17592186044415) (hm : m ≤ l.length) (hBn : lo ≤ Bn ∧ Bn < hi) (hBc : lo ≤ Bc ∧ Bc < hi) (hd : lo ≤ d ∧ d < hi) (J Jx : List Int → World → Prop) (hJ : ∀ s A, J s A → J s A.drew)
    (hY : ∀ pre x W, J pre W → pre.length < l.length + 1 - m → YieldAt Fence.wide (n - 1) Try.prog y #[.int .i64 x] W fun e W' =>
      (e = .returned (.bool true) ∧ J (pre ++ [x]) W' ∧ Kp lo hi W W') ∨ (e = .returned (.bool false) ∧ Jx (pre ++ [x]) W'))
    (W : World) (hcn : W.cell? ⟨Bn, 0, none⟩ = some (.int .i64 (m : Int))) (hcc : W.cell? ⟨Bc, 0, none⟩ = some (.slice (some ⟨d, 0, none⟩) (l.length + 1) cap)) (hc : ∀ j, j < l.length + 1 → W.cell? ⟨d, j, none⟩ = some (.int .i64 (cnt l j))) (h0 : J [] W) :
    CallsIn Fence.wide n Try.prog 22 #[.func (.yield y) #[] #[], .pointer (some ⟨Bn, 0, none⟩), .pointer (some ⟨Bc, 0, none⟩)] W fun e W' => (∃ v, e = .returned v) ∧
      ((∃ ys, ys = upto (winF l m) (l.length + 1 - m) ∧ J ys W') ∨ (∃ pre, (∃ k, k ≤ l.length + 1 - m ∧ pre = upto (winF l m) k) ∧ Jx pre W')) := by
  refine callsIn_of_wp Try.func22 rfl trivial ?_ rfl
  simp only [Try.ntmps22, List.size_toArray, List.length_cons, List.length_nil, Nat.reduceAdd, Nat.reduceSub, Array.replicate_succ, Array.replicate_zero, List.push_toArray, List.append_toArray, List.nil_append, List.cons_append]
  have HC := Aside0.mk hc
  have HN := Aside0.mk hcn
  have HCC := Aside0.mk hcc
  clear hc hcc
  gi_wp2
  clear hcn
  gi_loopw [4] (fun i wr => ∃ (k : Nat) (x : Int), k ≤ l.length + 1 - m ∧ i = .int .i64 x ∧ Aside0 (x = ((m + k : Nat) : Int)) ∧ J (upto (winF l m) k) wr ∧ Kp lo hi W wr)
    (fun i _ => l.length + 1 - (intOf i).toNat)
  case atStart => exact ⟨0, _, Nat.zero_le _, rfl, ⟨rfl⟩, h0, Kp.refl _ _ _⟩
  case round =>
    obtain ⟨k, x, hk, rfl, hx, hJs, hnx⟩ := hrel
    have c1 : wr.cell? ⟨Bn, 0, none⟩ = some (.int .i64 (m : Int)) := (hnx.cell hBn.1 hBn.2).trans HN.out
    have c2 : wr.cell? ⟨Bc, 0, none⟩ = some (.slice (some ⟨d, 0, none⟩) (l.length + 1) cap) := (hnx.cell hBc.1 hBc.2).trans HCC.out
    by_cases hlt : m + k < l.length + 1
    · have hY' := hY _ (winF l m k) wr.drew (hJ _ _ hJs) (by rw [upto_length]; omega)
      have c3 : wr.cell? ⟨d, m + k, none⟩ = some (.int .i64 (cnt l (m + k))) := (hnx.cell hd.1 hd.2).trans (HC.out _ hlt)
      have c4 : wr.cell? ⟨d, k, none⟩ = some (.int .i64 (cnt l k)) := (hnx.cell hd.1 hd.2).trans (HC.out _ (by omega))
      obtain ⟨y1, hy1⟩ : ∃ y1 : Int, y1 = (k : Int) := ⟨_, rfl⟩
      have e1 : wrap64 (x - (m : Int)) = y1 := by rw [hx.out, hy1]; unfold wrap64; omega
      rw [show m + k = x.toNat by rw [hx.out]; omega] at c3
      rw [show k = y1.toNat by omega] at c4
      obtain ⟨u, hu⟩ : ∃ u, u = cnt l x.toNat := ⟨_, rfl⟩
      obtain ⟨v, hv⟩ : ∃ v, v = cnt l y1.toNat := ⟨_, rfl⟩
      rw [← hu] at c3
      rw [← hv] at c4
      obtain ⟨z, hz⟩ : ∃ z, z = wrap64 (u - v) := ⟨_, rfl⟩
      have hw : winF l m k = z := by rw [hz, hu, hv, hy1, hx.out]; rfl
      rw [hw] at hY'
      have e2 : IntKind.i64.wrap (x - (m : Int)) = y1 := by simpa [i64_w] using e1
      have e3 : wrap64 (u - v) = z := hz.symm
      have e4 : IntKind.i64.wrap (u - v) = z := by simpa [i64_w] using e3
      clear hz
      have HW := Aside0.mk hw
      have b1 : (0 ≤ x) = True := eq_true (by rw [hx.out]; omega)
      have b2 : (x < (l.length : Int) + 1) = True := eq_true (by rw [hx.out]; omega)
      have b3 : (0 ≤ y1) = True := eq_true (by omega)
      have b4 : (y1 < (l.length : Int) + 1) = True := eq_true (by omega)
      have b5 : decide (x < (l.length : Int) + 1) = true := by simp [b2]
      have HLT := Aside0.mk hlt
      clear hu hv hw hy1 hlt
      obtain ⟨fn, tmps, assign, body, hy, hR⟩ := hY'
      gi_wp2
      refine wpIn_region_still_tail 12 (by kernel_rfl) (by kernel_rfl) ?_
      simp only [List.take_succ_cons, List.take_zero, List.drop_succ_cons, List.drop_zero]
      repeat still_step
      refine wpStill_nil ?_
      gi_wp2
      refine hR.mono ?_
      rintro e W3 (⟨rfl, hJ3, hk3⟩ | ⟨rfl, hJx3⟩)
      · clear hR
        gi_wp2
        go_roundw
        case rel => exact ⟨k + 1, _, by have := HLT.out; omega, rfl, ⟨by have := HLT.out; rw [hx.out]; unfold wrap64; omega⟩, by rw [upto_succ, HW.out]; exact hJ3, hnx.trans hk3⟩
        case measure => simp [intOf]; have := hx.out; have := HLT.out; unfold wrap64; omega
      · clear hR
        gi_wp2
        refine bodyPost_ret (results_none rfl _ _ _) rfl ?_
        exact ⟨⟨_, rfl⟩, .inr ⟨_, ⟨k + 1, by have := HLT.out; omega, by rw [upto_succ, HW.out]⟩, hJx3⟩⟩
    · have b5 : decide (x < (l.length : Int) + 1) = false := by rw [hx.out]; simp; omega
      gi_wp2
      go_end0
      obtain rfl : k = l.length + 1 - m := by omega
      exact ⟨⟨_, rfl⟩, .inl ⟨_, rfl, hJs⟩⟩

/-- what windows hands back stops as a list of windows does -/
theorem win_stops (n : Nat) (hn : 1 ≤ n) (lo hi Bn Bc d cap m : Nat) (l : List Bool) (hl : l.length < 17592186044415) (hm : m ≤ l.length) (w : World) (hBn : lo ≤ Bn ∧ Bn < hi) (hBc : lo ≤ Bc ∧ Bc < hi) (hd : lo ≤ d ∧ d < hi) (hhi : hi ≤ w.heap.size)
    (hcn : w.cell? ⟨Bn, 0, none⟩ = some (.int .i64 (m : Int))) (hcc : w.cell? ⟨Bc, 0, none⟩ = some (.slice (some ⟨d, 0, none⟩) (l.length + 1) cap)) (hc : ∀ j, j < l.length + 1 → w.cell? ⟨d, j, none⟩ = some (.int .i64 (cnt l j))) :
    SeqStopsK Fence.wide n Try.prog 22 #[.pointer (some ⟨Bn, 0, none⟩), .pointer (some ⟨Bc, 0, none⟩)] (fun x : Int => #[Value.int .i64 x]) (Kp lo hi) (fun ys => ys = upto (winF l m) (l.length + 1 - m)) (fun pre => ∃ k, k ≤ l.length + 1 - m ∧ pre = upto (winF l m) k) (l.length + 1 - m) w := fun y J Jx W hW hJ _ hY h0 => by
  have hW' : Below hi w W := hW.mono hhi
  exact win1_in n hn y lo hi Bn Bc d cap m l hl hm hBn hBc hd J Jx (fun s A h => hJ s A A.drew none h ⟨rfl, rfl, rfl, Nat.le_refl _, fun _ _ _ => rfl⟩ (fun r e => by cases e)) hY W
    ((hW'.cell (p := ⟨Bn, 0, none⟩) hBn.2).trans hcn) ((hW'.cell (p := ⟨Bc, 0, none⟩) hBc.2).trans hcc) (fun j hj => (hW'.cell (p := ⟨d, j, none⟩) hd.2).trans (hc j hj)) h0

/-! ### Least -/
/-- the fewest of its own letters in the windows that have come -/
def leastV (n : Int) (ys : List Int) : Int := ys.foldl (fun a y => min a (wrap64 (n - y))) n
theorem leastV_snoc (n : Int) (ys : List Int) (y : Int) : leastV n (ys ++ [y]) = min (leastV n ys) (wrap64 (n - y)) := by simp [leastV]
def Least (l : List Bool) (n : Int) : Option (Int × Bool) :=
  if l.length < 17592186044415 then (if n < 1 then some (0, false) else if (l.length : Int) < n then some (0, false) else some (leastV n (upto (winF l n.toNat) (l.length + 1 - n.toNat)), true)) else none

set_option maxHeartbeats 4000000 in
theorem least_no (A0 : Option Addr) (c0 : Nat) (l : List Bool) (n : Int) (w : World) (h : n < 1 ∨ (l.length : Int) < n) :
    Calls Try.prog 10 #[.slice A0 l.length c0, .int .i64 n] w fun e w' => e = .returned (.tuple #[.int .i64 0, .bool false]) ∧ Below w.heap.size w w' := by
  by_cases h1 : n < 1
  · clear h
    go_enter Try.func10, Try.ntmps10
    go_wp2
    go_ret2
    exact ⟨rfl, (Below.refl _ w).alloc (Nat.le_refl _) _⟩
  · have h2 : (l.length : Int) < n := by omega
    clear h
    go_enter Try.func10, Try.ntmps10
    go_wp2
    go_ret2
    exact ⟨rfl, (Below.refl _ w).alloc (Nat.le_refl _) _⟩

set_option maxRecDepth 100000 in
set_option maxHeartbeats 4000000 in
theorem least_yes (A0 : Option Addr) (c0 : Nat) (l : List Bool) (m : Nat) (w : World) (hr0 : Kd.C Kd.bool w A0 l.length l) (hc0 : l.length ≤ c0) (hl : l.length < 17592186044415) (h1 : 1 ≤ m) (h2 : m ≤ l.length) :
    Calls Try.prog 10 #[.slice A0 l.length c0, .int .i64 (m : Int)] w fun e w' => e = .returned (.tuple #[.int .i64 (leastV m (upto (winF l m) (l.length + 1 - m))), .bool true]) ∧ Below w.heap.size w w' := by
  refine (callsIn_wide (n := 4)).1 ?_
  refine callsIn_of_wp_marks Try.func10 rfl trivial ?_ rfl
  simp only [Try.ntmps10, List.size_toArray, List.length_cons, List.length_nil, Nat.reduceAdd, Nat.reduceSub, Array.replicate_succ, Array.replicate_zero, List.push_toArray, List.append_toArray, List.nil_append, List.cons_append]
  have g1 : decide ((m : Int) < 1) = false := by simp; omega
  have g2 : decide ((l.length : Int) < (m : Int)) = false := by simp; omega
  have HR := Aside0.mk hr0
  have HL := Aside0.mk hl
  clear hr0 hl
  gi_wp2_with (refine ⟨trivial, ?_⟩; gi_at_call 19; refine (callsIn_wide.2 (windows_calls A0 c0 l (m : Int) _ (Kd.C_alloc (Kd.C_alloc HR.out _) _) hc0 HL.out)).mono ?_; rintro e w' ⟨b, d, c, rfl, hcn, hcc, hcs, hb, hd, hs, hlb, hld, hB⟩)
  have q0 := (cell_new_l w (.int .i64 (m : Int)) 3)
  have q1 := (cell_new_l (w.alloc (.cells #[.int .i64 (m : Int)] 3)) (.int .i64 (m : Int)) 3)
  simp only [World.size_alloc] at q1 hcn hs hlb hld hB
  have k0 : w'.cell? ⟨w.heap.size, 0, none⟩ = some (.int .i64 (m : Int)) := (hB.cell (p := ⟨w.heap.size, 0, none⟩) (by simp; omega)).trans (cell_alloc_l _ q0.1)
  have k1 : w'.cell? ⟨w.heap.size + 1, 0, none⟩ = some (.int .i64 (m : Int)) := (hB.cell (p := ⟨w.heap.size + 1, 0, none⟩) (by simp)).trans q1.1
  have k2 : w'.frozen? ⟨w.heap.size + 1, 0, none⟩ = false := by
    have h := hB.block (w.heap.size + 1) (by simp)
    rw [← q1.2]
    unfold World.frozen?
    rw [h]
  have hB0 : Below w.heap.size w w' := (((Below.refl _ w).alloc (Nat.le_refl _) _).alloc (by simp) _).trans (hB.mono (by omega))
  refine wpIn_rangeFunc_ownF rfl (by omega) (gf := 22) (lb := #[.pointer (some ⟨w.heap.size + 1 + 1, 0, none⟩), .pointer (some ⟨b, 0, none⟩)]) rfl trivial (enters_of Try.func22 (by kernel_rfl) rfl)
    (win_stops 3 (by omega) (w.heap.size + 1 + 1) w'.heap.size (w.heap.size + 1 + 1) b d c m l HL.out h2 w' ⟨Nat.le_refl _, hs⟩ ⟨hlb, hb⟩ ⟨hld, hd⟩ (Nat.le_refl _) hcn hcc hcs) Kp.trans (fun W k o o' h _ _ _ => Kp.put W o' h) (Below.refl _ _) (fun _ => rfl)
    (fun pre W => (W.cell? ⟨w.heap.size, 0, none⟩ = some (.int .i64 (m : Int)) ∧ W.cell? ⟨w.heap.size + 1, 0, none⟩ = some (.int .i64 (leastV m pre)) ∧ W.frozen? ⟨w.heap.size + 1, 0, none⟩ = false) ∧ Below w.heap.size w W)
    (fun _ _ _ => False)
    (OwnFrom.and (Own.from (fun s A B row hs hg hr => ⟨cell_kept hs.1 hg hr, cell_kept hs.2.1 hg hr, (frozen_kept hs.2.1 hg hr).trans hs.2.2⟩) _) (ownFrom_below (Nat.le_refl _) hB0.size))
    (fun _ _ _ _ _ hs _ _ => hs)
    ⟨⟨k0, k1, k2⟩, hB0⟩
    (fun x => { tmps := #[.slice A0 l.length c0, .int .i64 (m : Int), undef, .pointer (some ⟨w.heap.size, 0, none⟩), .int .i64 0, .bool false, .pointer (some ⟨w.heap.size + 1, 0, none⟩), .int .i64 x, .int .i64 (m : Int), .bool false, .bool false, .int .i64 (m : Int), .slice A0 l.length c0, .int .i64 (l.length : Int), .bool false, .bool false, .int .i64 (m : Int), .slice A0 l.length c0, .int .i64 (m : Int), .func (.func 22) #[] #[.pointer (some ⟨w.heap.size + 1 + 1, 0, none⟩), .pointer (some ⟨b, 0, none⟩)], .int .i64 x, undef, undef, undef, undef, undef, undef], defers := [] }) ?assign ?body ?done ?stop
  case assign =>
    intro l x W K hK
    gi_wp2
    exact hK
  case body =>
    rintro y pre x W ⟨⟨h0, h1, h2⟩, hBW⟩ _
    have HX := Aside0.mk (leastV_snoc (m : Int) pre x)
    clear k0 k1 k2 hcn hcc hcs
    gi_wp2
    all_goals
      exact ⟨KeepsOthers.setCell _ _ _, Kp.set _ _ (by omega), ⟨(World.cell?_of_block (Below.heap_setCell W ⟨w.heap.size + 1, 0, none⟩ _ w.heap.size (by simp))).trans h0, by rw [HX.out]; refine (World.cell?_setCell_same' _ _ _ (by rw [h1]; rfl)).trans ?_; congr 2; omega, by rw [World.frozen?_setCell]; exact h2⟩, hBW.setCell (p := ⟨w.heap.size + 1, 0, none⟩) (by simp) _⟩
  case done =>
    rintro D ys W hD rfl ⟨⟨h0, h1, h2⟩, hBW⟩ hK
    clear k0 k1 k2 hcn hcc hcs
    gi_wp2
    refine ⟨by simp, .inl ⟨_, _, rfl, run_takeDeferred hK, ?_⟩⟩
    have hsz := hB0.size
    exact ⟨_, results_tmp2 rfl _ _ _, rfl, hBW.trans (belowK_b (w := w) (Nat.le_refl _) W D _ _ (by omega) hK rfl rfl)⟩
  case stop =>
    rintro D c pre W _ _ h _
    exact h.elim

theorem Least_calls (A0 : Option Addr) (c0 : Nat) (l : List Bool) (n : Int) (r1 : Int) (r2 : Bool) (w : World) (hr0 : Kd.C Kd.bool w A0 l.length l) (hc0 : l.length ≤ c0) (h : Least l n = some (r1, r2)) :
    Calls Try.prog 10 #[.slice A0 l.length c0, .int .i64 n] w fun e w' => e = .returned (.tuple #[.int .i64 r1, .bool r2]) ∧ Below w.heap.size w w' := by
  unfold Least at h
  split at h
  · rename_i hl
    split at h
    · rename_i h1
      injection h with h; injection h with e1 e2; subst e1 e2
      exact least_no A0 c0 l n w (.inl h1)
    · split at h
      · rename_i h1
        injection h with h; injection h with e1 e2; subst e1 e2
        exact least_no A0 c0 l n w (.inr h1)
      · rename_i h1 h2
        injection h with h; injection h with e1 e2; subst e1 e2
        obtain ⟨m, rfl⟩ := Int.eq_ofNat_of_zero_le (show 0 ≤ n by omega)
        exact least_yes A0 c0 l m w hr0 hc0 hl (by omega) (by omega)
  · cases h

/-! ### Meets -/
def winOf (l : List Bool) (n : Int) : Nat := (min (if n < 1 then 1 else if n > 64 then 64 else n) (l.length : Int)).toNat
def Meets (l : List Bool) (n most : Int) : Option Bool :=
  if l.length < 17592186044415 then some ((upto (winF l (winOf l n)) (l.length + 1 - winOf l n)).all fun y => decide (y ≤ most)) else none
theorem size_f (n : Int) : mmu_size.f n = some (if n < 1 then 1 else if n > 64 then 64 else n) := by
  unfold mmu_size.f calc_Clamp.f
  repeat' split
  all_goals rfl

theorem all_prefix {f : Nat → Int} {k n : Nat} {most : Int} (hk : k ≤ n) (h : (upto f k).all (fun y => decide (y ≤ most)) = false) : (upto f n).all (fun y => decide (y ≤ most)) = false := by
  rw [Bool.eq_false_iff] at h ⊢
  intro h2
  refine h ?_
  rw [List.all_eq_true] at h2 ⊢
  intro y hy
  refine h2 y ?_
  obtain ⟨j, hj, rfl⟩ := List.mem_map.1 hy
  exact List.mem_map.2 ⟨j, List.mem_range.2 (Nat.lt_of_lt_of_le (List.mem_range.1 hj) hk), rfl⟩

set_option maxRecDepth 100000 in
set_option maxHeartbeats 4000000 in
theorem Meets_calls (A0 : Option Addr) (c0 : Nat) (l : List Bool) (n most : Int) (r : Bool) (w : World) (hr0 : Kd.C Kd.bool w A0 l.length l) (hc0 : l.length ≤ c0) (h : Meets l n most = some r) :
    Calls Try.prog 15 #[.slice A0 l.length c0, .int .i64 n, .int .i64 most] w fun e w' => e = .returned (.bool r) ∧ Below w.heap.size w w' := by
  unfold Meets at h
  split at h
  case isFalse => cases h
  case isTrue hl =>
  injection h with h
  have hm : winOf l n ≤ l.length := by unfold winOf; omega
  obtain ⟨k, hk⟩ : ∃ k, k = (if n < 1 then 1 else if n > 64 then 64 else n) := ⟨_, rfl⟩
  have hk0 : 0 ≤ k := by
    rw [hk]
    split
    · omega
    · split <;> omega
  have hw : min k (l.length : Int) = ((winOf l n : Nat) : Int) := by
    unfold winOf
    rw [← hk]
    omega
  obtain ⟨m, hmm⟩ : ∃ m, m = winOf l n := ⟨_, rfl⟩
  rw [← hmm] at h hm hw
  have HS := Aside0.mk (hk ▸ size_f n)
  refine (callsIn_wide (n := 4)).1 ?_
  refine callsIn_of_wp_marks Try.func15 rfl trivial ?_ rfl
  simp only [Try.ntmps15, List.size_toArray, List.length_cons, List.length_nil, Nat.reduceAdd, Nat.reduceSub, Array.replicate_succ, Array.replicate_zero, List.push_toArray, List.append_toArray, List.nil_append, List.cons_append]
  have HR := Aside0.mk hr0
  have HL := Aside0.mk hl
  have HH := Aside0.mk h
  have HW := Aside0.mk hw
  clear hr0 hl h hk hw hmm
  gi_wp2_with (refine ⟨trivial, ?_⟩; gi_at_call 20; refine (callsIn_wide.2 (mmu_size.calls n k _ HS.out)).mono ?_; rintro e w' ⟨rfl, ⟨nd, rfl⟩⟩)
  · have E := Aside0.mk (show (l.length : Int) = (m : Int) by have := HW.out; omega)
    clear HW
    gi_wp2_with (refine ⟨trivial, ?_⟩; gi_at_call 19; refine (callsIn_wide.2 (windows_calls A0 c0 l (l.length : Int) _ (Kd.C_drewN (Kd.C_alloc (Kd.C_alloc HR.out _) _) _) hc0 HL.out)).mono ?_; rintro e w' ⟨b, d, c, rfl, hcn, hcc, hcs, hb, hd, hs, hlb, hld, hB⟩)
    rw [E.out] at hcn
    have q0 := cell_new_l w (.int .i64 most) 3
    have q1 := cell_new_l (w.alloc (.cells #[.int .i64 most] 3)) (.bool false) 4
    have hsz : (((w.alloc (.cells #[.int .i64 most] 3)).alloc (.cells #[.bool false] 4)).drewN nd).heap.size = w.heap.size + 1 + 1 := by simp [World.drewN]
    simp only [World.size_alloc] at q1
    rw [hsz] at hcn hs hlb hld hB
    have k0 : w'.cell? ⟨w.heap.size, 0, none⟩ = some (.int .i64 most) := (hB.cell (p := ⟨w.heap.size, 0, none⟩) (by simp; omega)).trans (cell_alloc_l _ q0.1)
    have k1 : w'.cell? ⟨w.heap.size + 1, 0, none⟩ = some (.bool false) := (hB.cell (p := ⟨w.heap.size + 1, 0, none⟩) (by simp)).trans q1.1
    have k2 : w'.frozen? ⟨w.heap.size + 1, 0, none⟩ = false := by
      have h := hB.block (w.heap.size + 1) (by simp)
      rw [← q1.2]
      unfold World.frozen?
      rw [h]
      rfl
    have hB0 : Below w.heap.size w w' := (pw_below_drewN (((Below.refl _ w).alloc (Nat.le_refl _) _).alloc (by simp) _) nd).trans (hB.mono (by omega))
    refine wpIn_rangeFunc_ownF rfl (by omega) (gf := 22) (lb := #[.pointer (some ⟨w.heap.size + 1 + 1, 0, none⟩), .pointer (some ⟨b, 0, none⟩)]) rfl trivial (enters_of Try.func22 (by kernel_rfl) rfl)
      (win_stops 3 (by omega) (w.heap.size + 1 + 1) w'.heap.size (w.heap.size + 1 + 1) b d c m l HL.out hm w' ⟨Nat.le_refl _, hs⟩ ⟨hlb, hb⟩ ⟨hld, hd⟩ (Nat.le_refl _) hcn hcc hcs) Kp.trans (fun W k o o' h _ _ _ => Kp.put W o' h) (Below.refl _ _) (fun _ => rfl)
      (fun pre W => (pre.all (fun y => decide (y ≤ most)) = true ∧ W.cell? ⟨w.heap.size, 0, none⟩ = some (.int .i64 most) ∧ W.cell? ⟨w.heap.size + 1, 0, none⟩ = some (.bool false) ∧ W.frozen? ⟨w.heap.size + 1, 0, none⟩ = false) ∧ Below w.heap.size w W)
      (fun c pre W => (c = .ret ∧ pre.all (fun y => decide (y ≤ most)) = false ∧ W.cell? ⟨w.heap.size + 1, 0, none⟩ = some (.bool false)) ∧ Below w.heap.size w W)
      (OwnFrom.and (Own.from (fun s A B row hs hg hr => ⟨hs.1, cell_kept hs.2.1 hg hr, cell_kept hs.2.2.1 hg hr, (frozen_kept hs.2.2.1 hg hr).trans hs.2.2.2⟩) _) (ownFrom_below (Nat.le_refl _) hB0.size))
      (fun c => OwnFrom.and (Own.from (fun s A B row hs hg hr => ⟨hs.1, hs.2.1, cell_kept hs.2.2 hg hr⟩) _) (ownFrom_below (Nat.le_refl _) hB0.size))
      ⟨⟨rfl, k0, k1, k2⟩, hB0⟩
      (fun x => { tmps := #[.slice A0 l.length c0, .int .i64 n, .int .i64 most, undef, undef, .pointer (some ⟨w.heap.size, 0, none⟩), .pointer (some ⟨w.heap.size + 1, 0, none⟩), .int .i64 x, .slice A0 l.length c0, .int .i64 n, .int .i64 k, .slice A0 l.length c0, .int .i64 (l.length : Int), .int .i64 (l.length : Int), .func (.func 22) #[] #[.pointer (some ⟨w.heap.size + 1 + 1, 0, none⟩), .pointer (some ⟨b, 0, none⟩)], .int .i64 x, undef, undef, undef], defers := [] }) ?assign ?body ?done ?stop
    case assign =>
      intro l x W K hK
      gi_wp2
      exact hK
    case body =>
      rintro y pre x W ⟨⟨h0, h1, h2, h3⟩, hBW⟩ _
      have HP := Aside0.mk h0
      clear k0 k1 k2 hcn hcc hcs h0
      by_cases hx : x ≤ most
      · have g1 : decide (most < x) = false := by simp; omega
        have HX := Aside0.mk hx
        clear hx
        gi_wp2
        exact ⟨KeepsOthers.refl _, Kp.refl _ _ _, ⟨by rw [List.all_append, HP.out]; simp [HX.out], h1, h2, h3⟩, hBW⟩
      · have g1 : decide (most < x) = true := by simp; omega
        have HX := Aside0.mk hx
        clear hx
        gi_wp2
        exact ⟨KeepsOthers.setCell _ _ _, ⟨rfl, by simp; exact .inr (by have := HX.out; omega), World.cell?_setCell_same' _ _ _ (by rw [h2]; rfl)⟩, hBW.setCell (p := ⟨w.heap.size + 1, 0, none⟩) (by simp) _⟩
    case done =>
      rintro D ys W hD rfl ⟨⟨h0, h1, h2, h3⟩, hBW⟩ hK
      have HP := Aside0.mk h0
      clear k0 k1 k2 hcn hcc hcs h0
      gi_wp2
      have hK' := (KeepsOthers.setCell W ⟨w.heap.size + 1, 0, none⟩ (.bool true)).same D _ hK rfl
      refine ⟨by simp, .inl ⟨_, _, rfl, run_takeDeferred hK', ?_⟩⟩
      have hc5 := cell_kept (World.cell?_setCell_same' W ⟨w.heap.size + 1, 0, none⟩ (.bool true) (by rw [h2]; rfl)) (grownBy_putObj' _ D (.deferred none)) (fun r e => by cases e; exact ⟨_, hK', rfl⟩)
      have hsz2 := hB0.size
      refine ⟨.bool true, ?_, by rw [← HH.out, HP.out], (hBW.setCell (p := ⟨w.heap.size + 1, 0, none⟩) (by simp) _).trans (belowK_b (w := w) (Nat.le_refl _) _ D _ _ (by omega) hK' rfl rfl)⟩
      simp [results, Try.f15, go_sem, hc5]
    case stop =>
      rintro D c pre W hD ⟨k', hk', rfl⟩ ⟨⟨rfl, h0, h2⟩, hBW⟩ hK
      have HP := Aside0.mk h0
      clear k0 k1 k2 hcn hcc hcs h0
      gi_wp2
      refine ⟨by simp, .inl ⟨_, _, rfl, run_takeDeferred hK, ?_⟩⟩
      have hc5 := cell_kept h2 (grownBy_putObj' _ D (.deferred none)) (fun r e => by cases e; exact ⟨_, hK, rfl⟩)
      have hsz2 := hB0.size
      refine ⟨.bool false, ?_, by rw [← HH.out, all_prefix hk' HP.out], hBW.trans (belowK_b (w := w) (Nat.le_refl _) W D _ _ (by omega) hK rfl rfl)⟩
      simp [results, Try.f15, go_sem, hc5]
  · have E := Aside0.mk (show k = (m : Int) by have := HW.out; omega)
    clear HW
    gi_wp2_with (refine ⟨trivial, ?_⟩; gi_at_call 19; refine (callsIn_wide.2 (windows_calls A0 c0 l k _ (Kd.C_drewN (Kd.C_alloc (Kd.C_alloc HR.out _) _) _) hc0 HL.out)).mono ?_; rintro e w' ⟨b, d, c, rfl, hcn, hcc, hcs, hb, hd, hs, hlb, hld, hB⟩)
    rw [E.out] at hcn
    have q0 := cell_new_l w (.int .i64 most) 3
    have q1 := cell_new_l (w.alloc (.cells #[.int .i64 most] 3)) (.bool false) 4
    have hsz : (((w.alloc (.cells #[.int .i64 most] 3)).alloc (.cells #[.bool false] 4)).drewN nd).heap.size = w.heap.size + 1 + 1 := by simp [World.drewN]
    simp only [World.size_alloc] at q1
    rw [hsz] at hcn hs hlb hld hB
    have k0 : w'.cell? ⟨w.heap.size, 0, none⟩ = some (.int .i64 most) := (hB.cell (p := ⟨w.heap.size, 0, none⟩) (by simp; omega)).trans (cell_alloc_l _ q0.1)
    have k1 : w'.cell? ⟨w.heap.size + 1, 0, none⟩ = some (.bool false) := (hB.cell (p := ⟨w.heap.size + 1, 0, none⟩) (by simp)).trans q1.1
    have k2 : w'.frozen? ⟨w.heap.size + 1, 0, none⟩ = false := by
      have h := hB.block (w.heap.size + 1) (by simp)
      rw [← q1.2]
      unfold World.frozen?
      rw [h]
      rfl
    have hB0 : Below w.heap.size w w' := (pw_below_drewN (((Below.refl _ w).alloc (Nat.le_refl _) _).alloc (by simp) _) nd).trans (hB.mono (by omega))
    refine wpIn_rangeFunc_ownF rfl (by omega) (gf := 22) (lb := #[.pointer (some ⟨w.heap.size + 1 + 1, 0, none⟩), .pointer (some ⟨b, 0, none⟩)]) rfl trivial (enters_of Try.func22 (by kernel_rfl) rfl)
      (win_stops 3 (by omega) (w.heap.size + 1 + 1) w'.heap.size (w.heap.size + 1 + 1) b d c m l HL.out hm w' ⟨Nat.le_refl _, hs⟩ ⟨hlb, hb⟩ ⟨hld, hd⟩ (Nat.le_refl _) hcn hcc hcs) Kp.trans (fun W k o o' h _ _ _ => Kp.put W o' h) (Below.refl _ _) (fun _ => rfl)
      (fun pre W => (pre.all (fun y => decide (y ≤ most)) = true ∧ W.cell? ⟨w.heap.size, 0, none⟩ = some (.int .i64 most) ∧ W.cell? ⟨w.heap.size + 1, 0, none⟩ = some (.bool false) ∧ W.frozen? ⟨w.heap.size + 1, 0, none⟩ = false) ∧ Below w.heap.size w W)
      (fun c pre W => (c = .ret ∧ pre.all (fun y => decide (y ≤ most)) = false ∧ W.cell? ⟨w.heap.size + 1, 0, none⟩ = some (.bool false)) ∧ Below w.heap.size w W)
      (OwnFrom.and (Own.from (fun s A B row hs hg hr => ⟨hs.1, cell_kept hs.2.1 hg hr, cell_kept hs.2.2.1 hg hr, (frozen_kept hs.2.2.1 hg hr).trans hs.2.2.2⟩) _) (ownFrom_below (Nat.le_refl _) hB0.size))
      (fun c => OwnFrom.and (Own.from (fun s A B row hs hg hr => ⟨hs.1, hs.2.1, cell_kept hs.2.2 hg hr⟩) _) (ownFrom_below (Nat.le_refl _) hB0.size))
      ⟨⟨rfl, k0, k1, k2⟩, hB0⟩
      (fun x => { tmps := #[.slice A0 l.length c0, .int .i64 n, .int .i64 most, undef, undef, .pointer (some ⟨w.heap.size, 0, none⟩), .pointer (some ⟨w.heap.size + 1, 0, none⟩), .int .i64 x, .slice A0 l.length c0, .int .i64 n, .int .i64 k, .slice A0 l.length c0, .int .i64 (l.length : Int), .int .i64 k, .func (.func 22) #[] #[.pointer (some ⟨w.heap.size + 1 + 1, 0, none⟩), .pointer (some ⟨b, 0, none⟩)], .int .i64 x, undef, undef, undef], defers := [] }) ?assign ?body ?done ?stop
    case assign =>
      intro l x W K hK
      gi_wp2
      exact hK
    case body =>
      rintro y pre x W ⟨⟨h0, h1, h2, h3⟩, hBW⟩ _
      have HP := Aside0.mk h0
      clear k0 k1 k2 hcn hcc hcs h0
      by_cases hx : x ≤ most
      · have g1 : decide (most < x) = false := by simp; omega
        have HX := Aside0.mk hx
        clear hx
        gi_wp2
        exact ⟨KeepsOthers.refl _, Kp.refl _ _ _, ⟨by rw [List.all_append, HP.out]; simp [HX.out], h1, h2, h3⟩, hBW⟩
      · have g1 : decide (most < x) = true := by simp; omega
        have HX := Aside0.mk hx
        clear hx
        gi_wp2
        exact ⟨KeepsOthers.setCell _ _ _, ⟨rfl, by simp; exact .inr (by have := HX.out; omega), World.cell?_setCell_same' _ _ _ (by rw [h2]; rfl)⟩, hBW.setCell (p := ⟨w.heap.size + 1, 0, none⟩) (by simp) _⟩
    case done =>
      rintro D ys W hD rfl ⟨⟨h0, h1, h2, h3⟩, hBW⟩ hK
      have HP := Aside0.mk h0
      clear k0 k1 k2 hcn hcc hcs h0
      gi_wp2
      have hK' := (KeepsOthers.setCell W ⟨w.heap.size + 1, 0, none⟩ (.bool true)).same D _ hK rfl
      refine ⟨by simp, .inl ⟨_, _, rfl, run_takeDeferred hK', ?_⟩⟩
      have hc5 := cell_kept (World.cell?_setCell_same' W ⟨w.heap.size + 1, 0, none⟩ (.bool true) (by rw [h2]; rfl)) (grownBy_putObj' _ D (.deferred none)) (fun r e => by cases e; exact ⟨_, hK', rfl⟩)
      have hsz2 := hB0.size
      refine ⟨.bool true, ?_, by rw [← HH.out, HP.out], (hBW.setCell (p := ⟨w.heap.size + 1, 0, none⟩) (by simp) _).trans (belowK_b (w := w) (Nat.le_refl _) _ D _ _ (by omega) hK' rfl rfl)⟩
      simp [results, Try.f15, go_sem, hc5]
    case stop =>
      rintro D c pre W hD ⟨k', hk', rfl⟩ ⟨⟨rfl, h0, h2⟩, hBW⟩ hK
      have HP := Aside0.mk h0
      clear k0 k1 k2 hcn hcc hcs h0
      gi_wp2
      refine ⟨by simp, .inl ⟨_, _, rfl, run_takeDeferred hK, ?_⟩⟩
      have hc5 := cell_kept h2 (grownBy_putObj' _ D (.deferred none)) (fun r e => by cases e; exact ⟨_, hK, rfl⟩)
      have hsz2 := hB0.size
      refine ⟨.bool false, ?_, by rw [← HH.out, all_prefix hk' HP.out], hBW.trans (belowK_b (w := w) (Nat.le_refl _) W D _ _ (by omega) hK rfl rfl)⟩
      simp [results, Try.f15, go_sem, hc5]

end Go.Proofs.Ytknponfegoclcaa.Mmu
