/- Proved: a whole script of package scutagelaw16 answers true; what its laws first ask answers true; and the law BufferRuns over any arguments. -/
import Derived.Test.YtmgfidepjclobaaBufStep
namespace Go.Proofs.Ytmgfidepjclobaa.BufRun
open Go.RowKit Go.Proofs.Ytmgfidepjclobaa.H Go.Proofs.Ytmgfidepjclobaa.Nums Go.Proofs.Ytmgfidepjclobaa.Buffer Go.Proofs.Ytmgfidepjclobaa.BufLaw Go.Proofs.Ytmgfidepjclobaa.BufStep

theorem step_any (B g N : Nat) (v vm : Value) (L M : List Ln) (kd t a : Int) (w : World) (hb : Both w B g v L vm M N) (hN : N ≤ 999999) :
    Calls Try.prog 19 #[.pointer (some ⟨g, 0, none⟩), vm, .agg #[.int .i64 kd, .int .i64 t, .int .i64 a]] w (StepPost B g v L N w) := by
  by_cases h3 : kd = 3
  · subst h3; exact clear3 B g N v vm L M t a w hb hN
  by_cases ht : t < 0 ∨ (L.length : Int) ≤ t
  · by_cases h1 : kd = 1
    · subst h1; exact put_out1 B g N v vm L M t a w hb hN ht
    by_cases h2 : kd = 2
    · subst h2; exact take_out2 B g N v vm L M t a w hb hN ht
    exact len_out B g N v vm L M kd t a w hb hN h1 h2 h3 ht
  obtain ⟨k, rfl⟩ := Int.eq_ofNat_of_zero_le (show 0 ≤ t by omega)
  have hk : k < L.length := by omega
  by_cases h1 : kd = 1
  · subst h1
    by_cases ha : a < 0 ∨ 2048 ≤ a
    · exact put_far1 B g N v vm L M k a w hb hN hk ha
    by_cases hm : a ∈ (L[k]).2
    · exact put_has1 B g N v vm L M k a w hb hN hk (by omega) hm
    · exact put_yes1 B g N v vm L M k a w hb hN hk (by omega) hm
  by_cases h2 : kd = 2
  · subst h2; exact take_in2 B g N v vm L M k a w hb hN hk
  exact len_in B g N v vm L M kd k a w hb hN h1 h2 h3 hk

theorem empty_sum (D : List (List Int)) : emptyB D = decide (sumD D = 0) := by
  unfold emptyB sumD
  induction D with
  | nil => rfl
  | cons p D ih => rw [List.all_cons, ih, List.map_cons, List.sum_cons]; simp
theorem tot_sum (D : List (List Int)) (N : Nat) (h8 : D.length ≤ 8) (h : ∀ p ∈ D, p.length ≤ N) : sumD D ≤ 8 * N := by
  have h1 := sum_le D N h D.length
  rw [List.take_length] at h1
  exact Nat.le_trans h1 (Nat.mul_le_mul_right _ h8)

def RunPost (B g : Nat) (v : Value) (L : List Ln) (N n : Nat) (w : World) (x : Ending) (w' : World) : Prop :=
  ∃ vm' L' M', x = .returned (.tuple #[vm', .bool true]) ∧ Both w' B g v L' vm' M' (N + n) ∧ Fr (Foot g v L) w w' ∧ ∀ k, Foot g v L' k → Foot g v L k ∨ w.heap.size ≤ k

set_option maxRecDepth 100000 in
set_option maxHeartbeats 25600000 in
theorem run_any (B g N : Nat) (v vm : Value) (L M : List Ln) (Ao : Option Addr) (no co : Nat) (ops : List (Int × Int × Int)) (hno : no = ops.length) (w : World) (hs : Both w B g v L vm M N)
    (hB : B ≤ w.heap.size) (hops : ∀ W, Below B w W → Rd W (.slice Ao no co) no 3 (calls ops)) (hl : no ≤ 1000) (hN : N ≤ 1000) :
    Calls Try.prog 7 #[.pointer (some ⟨g, 0, none⟩), vm, .slice Ao no co] w (RunPost B g v L N no w) := by
  obtain ⟨A, c, rfl, _⟩ := own_slice hs.mem.own
  have HS := Lib.hid hs
  have HO := Lib.hid hops
  have HNO := Lib.hid hno
  have HFT := Lib.hid (show ∀ k, Foot g v L k → B ≤ k ∧ k < w.heap.size from hs.buf.foot_lt)
  obtain ⟨n, hn⟩ : ∃ n, n = M.length := ⟨_, rfl⟩
  rw [← hn] at HS ⊢
  clear hs hops hno hn
  go_enter Try.func7, Try.ntmps7
  go_wp2_with fail
  go_loopw [1, 8, 9] (fun m ok i wr => ∃ k : Nat, k ≤ no ∧ i = .int .i64 k ∧ ok = .bool true ∧ Hid (∃ L' M', Both wr B g v L' m M' (N + k) ∧ Fr (Foot g v L) w wr ∧ ∀ j, Foot g v L' j → Foot g v L j ∨ w.heap.size ≤ j)) (fun _ _ i _ => no - (intOf i).toNat)
  case atStart => exact ⟨0, Nat.zero_le _, rfl, rfl, Lib.hid ⟨L, M, HS.out, Fr.refl _ _, fun j hj => .inl hj⟩⟩
  case round =>
    obtain ⟨k, hk, rfl, rfl, HR⟩ := hrel
    obtain ⟨L', M', hb, hf, hm⟩ := HR.out
    rename_i m
    obtain ⟨A', c', rfl, _⟩ := own_slice hb.mem.own
    obtain ⟨n1, hn1⟩ : ∃ n1, n1 = M'.length := ⟨_, rfl⟩
    rw [← hn1] at hb ⊢
    have HB := Lib.hid hb
    have HF := Lib.hid hf
    have HM := Lib.hid hm
    clear HR hn1
    by_cases hlt : k < no
    · have hbel : Below B w wr := hf.below hB (fun k hk => (HFT.out k hk).1)
      obtain ⟨ad, rfl, x0, x1, x2⟩ := call_at (HO.out _ hbel) k (by rw [← HNO.out]; exact hlt)
      generalize (ops[k]'(by rw [← HNO.out]; exact hlt)) = op at x0 x1 x2
      obtain ⟨kd, t, a⟩ := op
      dsimp only at x0 x1 x2
      have i1 : (0 : Int) ≤ (k : Int) := Int.natCast_nonneg _
      have i2 : (k : Int) < (no : Int) := by omega
      have HLT := Lib.hid hlt
      clear hb hf hm hbel hlt
      go_wp2_with fail
      with_reducible refine (step_any B g (N + k) v _ L' M' kd t a _ HB.out (by have := HLT.out; omega)).mono ?_
      rintro x5 w5 ⟨vm5, L5, M5, rfl, hb5, hf5, hm5⟩
      obtain ⟨A5, c5, rfl, _⟩ := own_slice hb5.mem.own
      obtain ⟨n5, hn5⟩ : ∃ n5, n5 = M5.length := ⟨_, rfl⟩
      rw [← hn5] at hb5 ⊢
      have H5 := Lib.hid hb5
      have F5 := Lib.hid (HF.out.trans hf5 (fun i hi => HM.out i hi))
      have N5 := Lib.hid (show ∀ j, Foot g v L5 j → Foot g v L j ∨ w.heap.size ≤ j from fun j hj => (hm5 j hj).elim (fun h => HM.out j h) (fun h => .inr (by have := HF.out.size; omega)))
      have ht5 := tot_sum (dat L5) _ (by rw [dat_length]; exact hb5.buf.len) hb5.tot
      have HT5 := Lib.hid ht5
      have HE5 := Lib.hid (empty_sum (dat L5))
      have HM8 : Hid (M5.length ≤ 8) := Lib.hid (by rw [hb5.len]; exact hb5.buf.len)
      clear hb5 hf5 hm5 hn5 ht5
      go_wp2_with fail
      with_reducible refine (empty_any B g v L5 _ H5.out.buf).mono ?_
      rintro x6 w6 ⟨rfl, m6, hw6⟩
      have F6 := Lib.hid (drewN_fr (Fr.refl No w5) hw6)
      clear hw6
      go_wp2_with fail
      with_reducible refine (sum_any B _ M5 _ (H5.out.no F6.out).mem HM8.out (by rw [H5.out.same]; exact fun p hp => Nat.le_trans (H5.out.tot p hp) (by have := HLT.out; omega))).mono ?_
      rintro x7 w7 ⟨rfl, m7, hw7⟩
      have F7 := Lib.hid (drewN_fr F6.out hw7)
      clear hw7
      rw [H5.out.same, HE5.out]
      obtain ⟨s, hs⟩ : ∃ s, s = sumD (dat L5) := ⟨_, rfl⟩
      rw [← hs]
      clear hs
      have hok : (decide (s = 0) == ((s : Int) == 0)) = true := by
        by_cases h : s = 0
        · subst h; rfl
        · rw [decide_eq_false h]; simp; omega
      go_wp2_with fail
      go_roundw
      case rel => exact ⟨k + 1, HLT.out, by go_num, rfl, Lib.hid ⟨L5, M5, H5.out.no F7.out, F5.out.trans F7.out (fun i (h : No i) => h.elim), N5.out⟩⟩
      case measure => have := HLT.out; simp [intOf]; omega
    · obtain rfl : k = no := by omega
      clear hb hf hm
      go_wp2_with fail
      go_ret2
      exact ⟨_, L', M', rfl, HB.out, HF.out, HM.out⟩

theorem run_cut (B g N : Nat) (v vm : Value) (L M : List Ln) (A : Option Addr) (c : Nat) (ops : List (Int × Int × Int)) (w0 w : World) (hs : Both w B g v L vm M N) (hB : B ≤ w.heap.size)
    (hr : Rd w0 (.slice A ops.length c) ops.length 3 (calls ops)) (hv : ∀ W, Below B w W → Below w0.heap.size w0 W) (hN : N ≤ 1000) :
    Calls Try.prog 7 #[.pointer (some ⟨g, 0, none⟩), vm, .slice A (min 60 ops.length) c] w (RunPost B g v L N (min 60 ops.length) w) :=
  run_any B g N v vm L M A (min 60 ops.length) c (ops.take 60) (by rw [List.length_take]) w hs hB (fun W hW => (calls_cut hr).below (hv W hW)) (by omega) hN

set_option maxRecDepth 100000 in
set_option maxHeartbeats 12800000 in
theorem alive_any (w : World) : Calls Try.prog 6 #[] w (Same w (.bool true)) := by
  go_enter Try.func6, Try.ntmps6
  go_wp2_with fail
  with_reducible refine (new_any 2 2 (by decide) w).mono ?_
  rintro x1 w1 ⟨g, v, L1, rfl, hd1, hb1, hw1⟩
  have D1 := Lib.hid hd1
  have S1 := Lib.hid hb1
  have B1 := Lib.hid hw1
  clear hd1 hb1 hw1
  go_wp2_with fail
  with_reducible refine (put_any w.heap.size g v L1 1 7 (by rw [D1.out]; decide) _ S1.out).mono ?_
  rintro x2 w2 ⟨L2, rfl, hd2, hb2, hf2, _⟩
  rw [D1.out] at hd2 ⊢
  have D2 := Lib.hid (show dat L2 = [[], [7]] from hd2)
  have S2 := Lib.hid hb2
  have B2 := Lib.hid (B1.out.trans (S1.out.below hf2 B1.out.size))
  rw [show okPut (List.replicate 2 []) 1 7 = true from by decide]
  clear hd2 hb2 hf2
  go_wp2_with fail
  with_reducible refine (put_any w.heap.size g v L2 1 7 (by rw [D2.out]; decide) _ S2.out).mono ?_
  rintro x3 w3 ⟨L3, rfl, hd3, hb3, hf3, _⟩
  rw [D2.out] at hd3 ⊢
  have D3 := Lib.hid (show dat L3 = [[], [7]] from hd3)
  have S3 := Lib.hid hb3
  have B3 := Lib.hid (B2.out.trans (S2.out.below hf3 B2.out.size))
  rw [show okPut [[], [7]] 1 7 = false from by decide]
  clear hd3 hb3 hf3
  go_wp2_with fail
  with_reducible refine (len_any w.heap.size g v L3 1 _ S3.out).mono ?_
  rintro x4 w4 ⟨rfl, n4, hw4⟩
  have F4 := Lib.hid (drewN_fr (Fr.refl No w3) hw4)
  rw [D3.out, show (getI [[], [7]] 1).length = 1 from by decide]
  clear hw4
  go_wp2_with fail
  with_reducible refine (empty_any w.heap.size g v L3 _ (S3.out.no F4.out)).mono ?_
  rintro x5 w5 ⟨rfl, n5, hw5⟩
  have F5 := Lib.hid (drewN_fr F4.out hw5)
  rw [D3.out, show emptyB [[], [7]] = false from by decide]
  clear hw5
  go_wp2_with fail
  with_reducible refine (take_any w.heap.size g v L3 1 _ (S3.out.no F5.out)).mono ?_
  rintro x6 w6 ⟨u6, L6, rfl, ho6, hd6, hb6, hf6, hm6, hq6⟩
  rw [D3.out, show getI [[], [7]] 1 = [7] from by decide] at ho6
  rw [D3.out, show takeD [[], [7]] 1 = [[], []] from by decide] at hd6
  obtain ⟨A6, c6, rfl, _⟩ := ho6.slice
  have O6 := Lib.hid ho6
  have D6 := Lib.hid hd6
  have S6 := Lib.hid hb6
  have B6 := Lib.hid (B3.out.trans (S3.out.below ((F5.out.mono (fun _ h => h.elim)).trans hf6 (fun i hi => .inl hi)) B3.out.size))
  have x6 : (w6.alloc (.cells #[.int .i64 7] 3)).heap[w6.heap.size]? = some (.cells #[.int .i64 7] 3 (0, 0)) := heap_alloc_new _ _
  have X6 := Lib.hid x6
  have HRL : Hid (Rd (w6.alloc (.cells #[.int .i64 7] 3)) (.slice (some ⟨w6.heap.size, 0, none⟩) 1 1) 1 1 (ints [7])) := Lib.hid ⟨rfl, ints_one _, .inr ⟨⟨w6.heap.size, 0, none⟩, 1, rfl, by decide, fun j u hj => by
    match j, hj with
    | 0, hj =>
      simp [ints] at hj
      subst hj
      rw [show (⟨w6.heap.size, 0, none⟩ : Addr).add 0 = ⟨w6.heap.size, 0, none⟩ from rfl, cell_of X6.out]
      rfl
    | j + 1, hj => simp [ints] at hj⟩⟩
  clear ho6 hd6 hb6 hf6 hm6 hq6 x6
  go_wp2_with fail
  with_reducible refine (same_any A6 _ 1 1 c6 1 [7] rfl rfl _ ((O6.out.fr ((Fr.refl No _).alloc _) (fun _ _ h => h)).rd) HRL.out (by decide)).mono ?_
  rintro x7 w7 ⟨rfl, n7, hw7⟩
  have F7 := Lib.hid (drewN_fr ((Fr.refl No w6).alloc (.cells #[.int .i64 7] 3)) hw7)
  clear hw7
  go_wp2_with fail
  with_reducible refine (empty_any w.heap.size g v L6 _ (S6.out.no F7.out)).mono ?_
  rintro x8 w8 ⟨rfl, n8, hw8⟩
  have F8 := Lib.hid (drewN_fr F7.out hw8)
  rw [D6.out, show emptyB [[], []] = true from by decide]
  clear hw8
  go_wp2_with fail
  go_ret
  exact ⟨rfl, B6.out.trans (F8.out.below B6.out.size (fun _ h => h.elim))⟩

theorem below_via {w0 w7 W0 W : World} (h1 : Below w0.heap.size w0 w7) (h2 : Fr No w7 W0) (hW : Below w0.heap.size W0 W) : Below w0.heap.size w0 W :=
  (h1.trans (h2.below h1.size (fun _ h => h.elim))).trans hW
/-- new buffers, and a new row of rows, with nothing in them -/
theorem made_both {w3 w4 : World} {B g r : Nat} {v : Value} {L : List Ln} {mc : Array Value} (hs : Bufs w3 B g v L) (hB : B ≤ w3.heap.size) (hd : dat L = List.replicate r []) (h8 : r ≤ 8)
    (hmc : mc.toList = (List.replicate r none_).map (·.1)) (hw : w4.heap[w3.heap.size]? = some (.cells mc 32 (0, 0))) (hf : Fr No w3 w4) : Both w4 B g v L (.slice (some ⟨w3.heap.size, 0, none⟩) r r) (List.replicate r none_) 0 := by
  refine ⟨hs.no hf, made_own w3 _ r hB h8 mc hmc w4 hw, ?_, by rw [hd, dat_none], ?_⟩
  · intro k hk hfk
    rcases hk with hk | ⟨p, hp, hk⟩
    · simp [Value.ownBlock] at hk
      have := (hs.foot_lt k hfk).2; omega
    · obtain rfl := List.eq_of_mem_replicate hp
      cases hk
  · rw [hd]
    intro p hp
    obtain rfl := List.eq_of_mem_replicate hp
    simp
theorem Both.fr {w w' : World} {B g : Nat} {v : Value} {L : List Ln} {vm : Value} {M : List Ln} {N : Nat} (h : Both w B g v L vm M N) {S : Nat → Prop} (hf : Fr S w w') (h1 : ∀ k, Foot g v L k → ¬ S k) (h2 : ∀ k, RFoot vm M k → ¬ S k) : Both w' B g v L vm M N :=
  ⟨h.buf.fr hf h1, h.mem.fr hf h2, h.sep, h.same, h.tot⟩

set_option maxRecDepth 100000 in
set_option maxHeartbeats 6400000 in
theorem runs_any (n : Int) (vo : Value) (ops : List (Int × Int × Int)) (w : World) (hr : Rd w vo ops.length 3 (calls ops)) :
    Calls Try.prog 3 #[.int .i64 n, vo] w (Same w (.bool true)) := by
  obtain ⟨A, c, rfl, hc⟩ := hr.slice
  obtain ⟨r, hrm⟩ : ∃ r : Nat, max 0 (min n 8) = (r : Int) := ⟨(max 0 (min n 8)).toNat, by omega⟩
  have hr8 : r ≤ 8 := by omega
  have HR8 := Lib.hid hr8
  have HRM := Lib.hid hrm
  have HC := Lib.hid hc
  have HR := Lib.hid hr
  have hmk := run_rows r hr8
  have HMC := Lib.hid (made_rows r)
  generalize madeCells (Value.slice none 0 0).cells (r * 1) = mc at hmk HMC
  have hnn : (0 : Int) ≤ (r : Int) := Int.natCast_nonneg _
  clear hr hrm hc
  go_enter Try.func3, Try.ntmps3
  go_wp2_with fail
  with_reducible refine (alive_any _).mono ?_
  rintro x1 w1 ⟨rfl, hb1⟩
  have B1 := Lib.hid hb1
  clear hb1
  go_wp2_with fail
  go_region_with ((first
    | (go_at_call 8; refine (new_any n r HRM.out _).mono ?_; rintro x3 w3 ⟨g, v, L, rfl, hd3, hs3, hb3⟩; have D3 := Lib.hid hd3; have S3 : Hid (Bufs w3 w.heap.size g v L) := Lib.hid (hs3.lower B1.out.size); have B3 : Hid (Below w.heap.size w w3) := Lib.hid (B1.out.drew.trans (hb3.mono B1.out.size)); clear hd3 hs3 hb3)
    | (go_at_call 9; refine (near_any n 0 8 r HRM.out (by omega) _).mono ?_; rintro e wn ⟨rfl, nn, rfl⟩)
    | (go_at_call 10; refine (few_any A ops.length c _ HC.out).mono ?_; rintro x8 w8 ⟨rfl, hw8⟩; subst hw8)
    | (go_at_call 7; (refine (run_cut w.heap.size g 0 v _ L (List.replicate r none_) A c ops w ((w3.drewN nn).alloc (.cells mc 32)) (made_both S3.out B3.out.size D3.out HR8.out HMC.out (heap_alloc_new (w3.drewN nn) _) (by repeat (first | exact Fr.refl _ _ | apply Fr.drewN | apply Fr.drew | apply Fr.alloc))) (by have := B3.out.size; simp; omega) HR.out (fun W hW => below_via B3.out (by repeat (first | exact Fr.refl _ _ | apply Fr.drewN | apply Fr.drew | apply Fr.alloc)) hW) (by omega)).mono ?_); rintro x9 w9 ⟨vm9, L9, M9, rfl, hb9, hf9, _⟩; have B9 : Hid (Below w.heap.size w w9) := Lib.hid (B3.out.trans (((((Fr.refl No w3).drewN nn).alloc _).mono (fun _ h => h.elim)).trans hf9 (fun i hi => .inl hi) |>.below B3.out.size (fun k hk => (S3.out.foot_lt k hk).1))); clear hb9 hf9)))
  all_goals
    go_wp2
    go_ret
    exact ⟨rfl, B9.out⟩

end Go.Proofs.Ytmgfidepjclobaa.BufRun
