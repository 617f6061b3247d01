/- Proved: a whole script of package scutagelaw05 answers true; what its laws first ask answers true; and the law BitmapRuns over any arguments. -/
import Derived.Test.YtncbbphhndmibaaDoorBitStep
namespace Go.Proofs.YtncbbphhndmibaaDoor.BitRun
open Go.RowKit Go.Proofs.YtncbbphhndmibaaDoor.H Go.Proofs.YtncbbphhndmibaaDoor.Nums Go.Proofs.YtncbbphhndmibaaDoor.BitPure Go.Proofs.YtncbbphhndmibaaDoor.Bitmap Go.Proofs.YtncbbphhndmibaaDoor.BitLaw Go.Proofs.YtncbbphhndmibaaDoor.BitStep
set_option linter.unusedVariables false
attribute [local irreducible] elems from_ nxt elemsN

def RunPost (B g n : Nat) (w : World) (x : Ending) (w' : World) : Prop :=
  ∃ vm' ws', x = .returned (.tuple #[vm', .bool true]) ∧ Both w' B g n ws' vm' ∧ Fr (Foot g) w w'

set_option maxRecDepth 100000 in
set_option maxHeartbeats 25600000 in
theorem run_any (B g n : Nat) (ws : List Nat) (vm : Value) (Ao : Option Addr) (no co : Nat) (ops : List (Int × Int)) (hno : no = ops.length) (w : World) (hs : Both w B g n ws vm)
    (hB : B ≤ w.heap.size) (hops : ∀ W, Below B w W → Rd W (.slice Ao no co) no 2 (calls ops)) (hl : no ≤ 1000) :
    Calls Tryd.prog 12 #[.pointer (some ⟨g, 0, none⟩), .int .i64 n, vm, .slice Ao no co] w (RunPost B g n w) := by
  have HS := Lib.hid hs
  have HO := Lib.hid hops
  have HNO := Lib.hid hno
  have HBS := Lib.hid hB
  clear hs hops hno hB
  go_enter Tryd.func12, Tryd.ntmps12
  go_wp2_with fail
  go_loopw [2, 10, 11] (fun m ok i wr => ∃ k : Nat, k ≤ no ∧ i = .int .i64 k ∧ ok = .bool true ∧ Hid (∃ ws', Both wr B g n ws' m ∧ Fr (Foot g) w wr)) (fun _ _ i _ => no - (intOf i).toNat)
  case atStart => exact ⟨0, Nat.zero_le _, rfl, rfl, Lib.hid ⟨ws, HS.out, Fr.refl _ _⟩⟩
  case round =>
    obtain ⟨k, hk, rfl, rfl, HR⟩ := hrel
    obtain ⟨ws1, hb, hf⟩ := HR.out
    rename_i m
    obtain ⟨A1, c1, rfl, _⟩ := hb.mem.slice
    have HB := Lib.hid hb
    have HF := Lib.hid hf
    obtain ⟨n1, hn1⟩ : ∃ n1, n1 = (elems ws1).length := ⟨_, rfl⟩
    rw [← hn1] at HB ⊢
    have i1 : (0 : Int) ≤ (k : Int) := Int.natCast_nonneg _
    clear HR hn1 hb
    by_cases hlt : k < no
    · have hbel : Below B w wr := hf.below HBS.out (fun j hj => by unfold Foot at hj; rw [hj]; exact HS.out.set.base)
      obtain ⟨ad, rfl, x0, x1⟩ := call_at (HO.out _ hbel) k (by rw [← HNO.out]; exact hlt)
      generalize (ops[k]'(by rw [← HNO.out]; exact hlt)) = op at x0 x1
      obtain ⟨kd, t⟩ := op
      dsimp only at x0 x1
      have i2 : (k : Int) < (no : Int) := by omega
      have HLT := Lib.hid hlt
      clear hf hbel hlt
      go_wp2_with fail
      with_reducible refine (step_any B g n ws1 _ kd t _ HB.out (by have := HBS.out; have := HF.out.size; omega)).mono ?_
      rintro x5 w5 ⟨vm5, ws5, rfl, hb5, hf5⟩
      obtain ⟨A5, c5, rfl, _⟩ := hb5.mem.slice
      have HQ := Lib.hid hb5.len
      have H5 := Lib.hid hb5
      obtain ⟨ys, hys⟩ : ∃ ys, ys = elems ws5 := ⟨_, rfl⟩
      rw [← hys] at H5 HQ ⊢
      have HY := Lib.hid hys
      obtain ⟨q, hq⟩ : ∃ q, q = ys.length := ⟨_, rfl⟩
      rw [← hq] at H5 HQ ⊢
      have HYQ := Lib.hid hq
      have HO5 : Hid (∀ W, Fr No w5 W → Rd W (.slice A5 q c5) q 1 (ints ys)) := Lib.hid (fun W hW => by
        have h9 := (hb5.mem.fr hW (fun _ _ h => h)).rd
        rw [← hys, ← hq] at h9
        exact h9)
      have F5 := Lib.hid (HF.out.trans hf5 (fun i hi => .inl hi))
      have gq : ((q : Int) == (q : Int)) = true := by simp
      clear hb5 hf5 hys hq
      have HCO : Hid (∀ W, Fr No w5 W → Calls Tryd.prog 11 #[.pointer (some ⟨g, 0, none⟩)] W (Quiet W (.int .i64 q))) := Lib.hid (fun W hW => by
        have h := count_any B g n ws5 W (H5.out.no hW).set
        rw [← HY.out, ← HYQ.out] at h
        exact h)
      have HAL : Hid (∀ W, Fr No w5 W → Calls Tryd.prog 18 #[.pointer (some ⟨g, 0, none⟩)] W (ListPost ys W)) := Lib.hid (fun W hW => by
        have h := all_any B g n ws5 W (H5.out.no hW).set (H5.out.no hW).tab
        rw [← HY.out] at h
        exact h)
      go_wp2_with fail
      with_reducible refine (HCO.out _ (by repeat (first | exact Fr.refl _ _ | apply Fr.drewN | apply Fr.drew | apply Fr.alloc))).mono ?_
      rintro x6 w6 ⟨rfl, m6, hw6⟩
      have F6 := Lib.hid (show Fr No w5 w6 from drewN_fr (by repeat (first | exact Fr.refl _ _ | apply Fr.drewN | apply Fr.drew | apply Fr.alloc)) hw6)
      clear hw6
      go_wp2_with fail
      with_reducible refine (HAL.out _ (by repeat (first | exact F6.out | apply Fr.drewN | apply Fr.drew | apply Fr.alloc))).mono ?_
      rintro x7 w7 ⟨v7, rfl, ho7, hb7⟩
      have F7 := Lib.hid (show Fr No w5 w7 from Fr.then_below (by repeat (first | exact F6.out | apply Fr.drewN | apply Fr.drew | apply Fr.alloc)) hb7)
      obtain ⟨A7, c7, rfl, _⟩ := ho7.slice
      have hr7 := ho7.rd
      rw [← HYQ.out] at hr7 ⊢
      have HR7 := Lib.hid hr7
      clear ho7 hb7 hr7
      go_wp2_with fail
      with_reducible refine (same_any A7 A5 q q c7 c5 ys HYQ.out HYQ.out _ (HR7.out.fr (S := No) (by repeat (first | exact Fr.refl _ _ | apply Fr.drewN | apply Fr.drew | apply Fr.alloc)) (fun _ _ h => h)) (HO5.out _ (by repeat (first | exact F7.out | apply Fr.drewN | apply Fr.drew | apply Fr.alloc))) (by have := HQ.out; have := HYQ.out; omega)).mono ?_
      rintro x8 w8 ⟨rfl, m8, hw8⟩
      have F8 := Lib.hid (show Fr No w5 w8 from drewN_fr (by repeat (first | exact F7.out | apply Fr.drewN | apply Fr.drew | apply Fr.alloc)) hw8)
      clear hw8
      go_wp2_with fail
      go_roundw
      case rel => exact ⟨k + 1, HLT.out, by go_num, rfl, Lib.hid ⟨ws5, H5.out.no F8.out, F5.out.trans F8.out (fun i (h : No i) => h.elim)⟩⟩
      case measure => have := HLT.out; simp [intOf]; omega
    · obtain rfl : k = no := by omega
      clear hf hlt
      go_wp2_with fail
      go_ret2
      exact ⟨_, ws1, rfl, HB.out, HF.out⟩

theorem run_cut (B g n : Nat) (ws : List Nat) (vm : Value) (A : Option Addr) (c : Nat) (ops : List (Int × Int)) (w0 w : World) (hs : Both w B g n ws vm) (hB : B ≤ w.heap.size)
    (hr : Rd w0 (.slice A ops.length c) ops.length 2 (calls ops)) (hv : ∀ W, Below B w W → Below w0.heap.size w0 W) :
    Calls Tryd.prog 12 #[.pointer (some ⟨g, 0, none⟩), .int .i64 n, vm, .slice A (min 60 ops.length) c] w (RunPost B g n w) :=
  run_any B g n ws vm A (min 60 ops.length) c (ops.take 60) (by rw [List.length_take]) w hs hB (fun W hW => (calls_cut hr).below (hv W hW)) (by omega)
theorem below_via {w0 w7 W0 W : World} (h1 : Below w0.heap.size w0 w7) (h2 : Fr No w7 W0) (hW : Below w0.heap.size W0 W) : Below w0.heap.size w0 W :=
  (h1.trans (h2.below h1.size (fun _ h => h.elim))).trans hW
theorem tab_pos {w : World} (h : Tab w) : 0 < w.heap.size := World.block_lt_of_cell? w _ (h 0 (by decide))

def a1 : List Nat := addW 100 w0 3
def a2 : List Nat := addW 100 a1 64
set_option maxRecDepth 100000 in
theorem facts : topN 100 = 100 ∧ addOk 100 w0 3 = true ∧ addOk 100 a1 64 = true ∧ addOk 100 a2 3 = false ∧ nextI 100 a2 4 = 64 ∧ (elems a2).length = 2 ∧ hasI 100 a2 3 = true ∧ hasI 100 a2 4 = false := by
  refine ⟨by decide, by decide +kernel, by decide +kernel, by decide +kernel, by decide +kernel, by decide +kernel, by decide +kernel, by decide +kernel⟩
set_option maxRecDepth 100000 in
set_option maxHeartbeats 12800000 in
theorem alive_any (w : World) (ht : Tab w) : Calls Tryd.prog 6 #[] w (Same w (.bool true)) := by
  obtain ⟨f0, f1, f2, f3, f4, f5, f6, f7⟩ := facts
  have HF := Lib.hid (And.intro f0 (And.intro f1 (And.intro f2 (And.intro f3 (And.intro f4 (And.intro f5 (And.intro f6 f7)))))))
  have HT := Lib.hid ht
  clear f0 f1 f2 f3 f4 f5 f6 f7 ht
  go_enter Tryd.func6, Tryd.ntmps6
  go_wp2_with fail
  with_reducible refine (new_any 100 w).mono ?_
  rintro x1 w1 ⟨g, rfl, hb1, hw1⟩
  rw [HF.out.1] at hb1
  have S1 := Lib.hid hb1
  have B1 := Lib.hid hw1
  clear hb1 hw1
  go_wp2_with fail
  with_reducible refine (add_any w.heap.size g 100 w0 3 _ S1.out).mono ?_
  rintro x2 w2 ⟨rfl, hb2, hf2⟩
  rw [HF.out.2.1]
  have S2 : Hid (S w2 w.heap.size g 100 a1) := Lib.hid hb2
  have B2 := Lib.hid (B1.out.trans (S1.out.below hf2 B1.out.size))
  clear hb2 hf2
  go_wp2_with fail
  with_reducible refine (add_any w.heap.size g 100 a1 64 _ S2.out).mono ?_
  rintro x3 w3 ⟨rfl, hb3, hf3⟩
  rw [HF.out.2.2.1]
  have S3 : Hid (S w3 w.heap.size g 100 a2) := Lib.hid hb3
  have B3 := Lib.hid (B2.out.trans (S2.out.below hf3 B2.out.size))
  clear hb3 hf3
  go_wp2_with fail
  with_reducible refine (add_any w.heap.size g 100 a2 3 _ S3.out).mono ?_
  rintro x4 w4 ⟨rfl, hb4, hf4⟩
  rw [HF.out.2.2.2.1]
  have S4 : Hid (S w4 w.heap.size g 100 a2) := Lib.hid (by rw [add_none HF.out.2.2.2.1] at hb4; exact hb4)
  have B4 := Lib.hid (B3.out.trans (S3.out.below hf4 B3.out.size))
  clear hb4 hf4
  go_wp2_with fail
  with_reducible refine (next_any w.heap.size g 100 a2 4 _ S4.out (HT.out.low B4.out)).mono ?_
  rintro x5 w5 ⟨rfl, n5, hw5⟩
  rw [HF.out.2.2.2.2.1]
  have F5 := Lib.hid (drewN_fr (Fr.refl No w4) hw5)
  clear hw5
  go_wp2_with fail
  with_reducible refine (count_any w.heap.size g 100 a2 _ (S4.out.no F5.out)).mono ?_
  rintro x6 w6 ⟨rfl, n6, hw6⟩
  rw [HF.out.2.2.2.2.2.1]
  have F6 := Lib.hid (drewN_fr F5.out hw6)
  clear hw6
  go_wp2_with fail
  with_reducible refine (has_any w.heap.size g 100 a2 3 _ (S4.out.no F6.out)).mono ?_
  rintro x7 w7 ⟨rfl, n7, hw7⟩
  rw [HF.out.2.2.2.2.2.2.1]
  have F7 := Lib.hid (drewN_fr F6.out hw7)
  clear hw7
  go_wp2_with fail
  with_reducible refine (has_any w.heap.size g 100 a2 4 _ (S4.out.no F7.out)).mono ?_
  rintro x8 w8 ⟨rfl, n8, hw8⟩
  rw [HF.out.2.2.2.2.2.2.2]
  have F8 := Lib.hid (drewN_fr F7.out hw8)
  clear hw8
  go_wp2_with fail
  go_ret
  exact ⟨rfl, B4.out.trans (F8.out.below B4.out.size (fun _ h => h.elim))⟩

set_option maxRecDepth 100000 in
set_option maxHeartbeats 6400000 in
theorem runs_any (n : Int) (vo : Value) (ops : List (Int × Int)) (w : World) (ht : Tab w) (hr : Rd w vo ops.length 2 (calls ops)) :
    Calls Tryd.prog 4 #[.int .i64 n, vo] w (Same w (.bool true)) := by
  obtain ⟨A, c, rfl, hc⟩ := hr.slice
  have HT := Lib.hid ht
  have HC := Lib.hid hc
  have HR := Lib.hid hr
  have HM : Hid (max 0 (min n 2048) = (topN n : Int)) := Lib.hid (by unfold topN; omega)
  clear hr hc ht
  go_enter Tryd.func4, Tryd.ntmps4
  go_wp2_with fail
  with_reducible refine (alive_any _ HT.out).mono ?_
  rintro x1 w1 ⟨rfl, hb1⟩
  have B1 := Lib.hid hb1
  clear hb1
  go_wp2_with fail
  with_reducible refine (new_any n _).mono ?_
  rintro x3 w3 ⟨g, rfl, hs3, hb3⟩
  have S3 := Lib.hid (hs3.lower B1.out.size)
  have B3 := Lib.hid (B1.out.trans (hb3.mono B1.out.size))
  clear hs3 hb3
  go_wp2_with fail
  with_reducible refine (near_any n 0 2048 _ HM.out (by omega) _).mono ?_
  rintro x4 w4 ⟨rfl, n4, hw4⟩
  have F4 := Lib.hid (drewN_fr (Fr.refl No w3) hw4)
  clear hw4
  go_wp2_with fail
  with_reducible refine (few_any A ops.length c _ HC.out).mono ?_
  rintro x8 w8 ⟨rfl, hw8⟩
  subst hw8
  go_wp2_with fail
  with_reducible refine (run_cut w.heap.size g (topN n) w0 (.slice none 0 0) A c ops w _ ⟨S3.out.no F4.out, by rw [w0_elems]; exact Own.nil _ _, (HT.out.low B3.out).no F4.out, tab_pos HT.out⟩ (by have := B3.out.size; have := F4.out.size; omega) HR.out (fun W hW => below_via B3.out F4.out hW)).mono ?_
  rintro x9 w9 ⟨vm9, ws9, rfl, hb9, hf9⟩
  have B9 := Lib.hid ((B3.out.trans (F4.out.below B3.out.size (fun _ h => h.elim))).trans ((S3.out.no F4.out).below hf9 (by have := B3.out.size; have := F4.out.size; omega)))
  clear hb9 hf9
  go_wp2_with fail
  go_ret
  exact ⟨rfl, B9.out⟩

end Go.Proofs.YtncbbphhndmibaaDoor.BitRun
