/- Proved: the law BufferTakes of package scutagelaw16 over any arguments. -/
import Derived.Test.YtmgfidepjclobaaBufRun
import Derived.Test.YtmgfidepjclobaaRising
namespace Go.Proofs.Ytmgfidepjclobaa.BufTakes
open Go.RowKit Go.Proofs.Ytmgfidepjclobaa.H Go.Proofs.Ytmgfidepjclobaa.Nums Go.Proofs.Ytmgfidepjclobaa.Buffer Go.Proofs.Ytmgfidepjclobaa.BufLaw Go.Proofs.Ytmgfidepjclobaa.BufStep Go.Proofs.Ytmgfidepjclobaa.BufRun

theorem get_set (D : List (List Int)) (t : Nat) (h : t < D.length) (W : List Int) : getI (D.set t W) (t : Int) = W := by
  unfold getI
  rw [if_neg (by omega)]
  simp [h]
theorem get_other (D : List (List Int)) (t u : Nat) (h : t ≠ u) (W : List Int) : getI (D.set t W) (u : Int) = getI D (u : Int) := by
  unfold getI
  rw [if_neg (by omega), if_neg (by omega), show ((u : Int)).toNat = u by omega, List.getElem?_set_ne h]
theorem put_set (D : List (List Int)) (t : Nat) (h : t < D.length) (W : List Int) (x : Int) : putD (D.set t W) (t : Int) x = D.set t (if okPut (D.set t W) (t : Int) x = true then W ++ [x] else W) := by
  unfold putD
  split
  · rw [get_set D t h W, show ((t : Int)).toNat = t by omega, List.set_set]
  · rfl
theorem ok_new (D : List (List Int)) (t : Nat) (h : t < D.length) (W : List Int) (x : Int) (ho : okPut (D.set t W) (t : Int) x = true) : x ∉ W := by
  unfold okPut at ho
  rw [get_set D t h W] at ho
  simp at ho
  exact ho.2
theorem nodup_snoc {W : List Int} {x : Int} (h : W.Nodup) (hx : x ∉ W) : (W ++ [x]).Nodup := by
  rw [List.nodup_append]
  refine ⟨h, by simp, ?_⟩
  intro a ha b hb e
  simp at hb
  subst hb e
  exact hx ha
theorem set_nil (D : List (List Int)) (u : Nat) (h : getI D (u : Int) = []) (hu : u < D.length) : D.set u [] = D := by
  unfold getI at h
  rw [if_neg (by omega), show ((u : Int)).toNat = u by omega, List.getElem?_eq_getElem hu] at h
  simp at h
  apply List.ext_getElem?
  intro i
  by_cases e : u = i
  · subst e
    rw [List.getElem?_set_self hu, List.getElem?_eq_getElem hu, h]
  · rw [List.getElem?_set_ne e]
theorem take_set (D : List (List Int)) (t : Nat) (h : t < D.length) (W : List Int) : takeD (D.set t W) (t : Int) = D.set t [] := by
  unfold takeD inD
  rw [if_pos (by simp; omega), show ((t : Int)).toNat = t by omega, List.set_set]
theorem tot_set8 (D : List (List Int)) (t N : Nat) (W : List Int) (h : ∀ p ∈ D, p.length ≤ N) (hW : W.length ≤ N) : ∀ p ∈ D.set t W, p.length ≤ N := by
  intro p hp
  rcases List.mem_or_eq_of_mem_set hp with hp | rfl
  · exact h p hp
  · exact hW
theorem sum_one (u : Nat) (hu : u < 8) (O : List Int) : sumD ((List.replicate 8 ([] : List Int)).set u O) = O.length := by
  unfold sumD
  match u, hu with
  | 0, _ | 1, _ | 2, _ | 3, _ | 4, _ | 5, _ | 6, _ | 7, _ => simp [List.replicate, List.set]
/-- a list of the law's own, apart from the buffers -/
structure Side (w : World) (B g : Nat) (v : Value) (L : List Ln) (o : Value) (W : List Int) (N : Nat) : Prop where
  own : Own w B o W
  sep : ∀ k, o.ownBlock = some k → ¬ Foot g v L k
  nd : W.Nodup
  len : W.length ≤ N
theorem Side.fr {w w' : World} {B g : Nat} {v : Value} {L L' : List Ln} {o : Value} {W : List Int} {N N' : Nat} (h : Side w B g v L o W N) {S : Nat → Prop} (hf : Fr S w w') (hn : ∀ k, o.ownBlock = some k → ¬ S k)
    (hm : ∀ k, Foot g v L' k → Foot g v L k ∨ w.heap.size ≤ k) (hN : N ≤ N') : Side w' B g v L' o W N' :=
  ⟨h.own.fr hf hn, fun k hk hk2 => (hm k hk2).elim (h.sep k hk) (fun h2 => by have := (h.own.lt k hk).2; omega), h.nd, Nat.le_trans h.len hN⟩
theorem Side.snoc {w w' : World} {B g : Nat} {v : Value} {L : List Ln} {o o' : Value} {W : List Int} {N : Nat} {x : Int} (h : Side w B g v L o W N) (h1 : Own w' B o' (W ++ [x])) (h3 : o'.ownBlock = o.ownBlock ∨ ∃ k, o'.ownBlock = some k ∧ w.heap.size ≤ k)
    (hx : x ∉ W) (hb : Bufs w B g v L) : Side w' B g v L o' (W ++ [x]) (N + 1) :=
  ⟨h1, fun k hk hk2 => by
    rcases h3 with h3 | ⟨k', h3, h4⟩
    · exact h.sep k (by rw [← h3]; exact hk) hk2
    · rw [hk] at h3
      injection h3 with h3
      subst h3
      have := (hb.foot_lt k hk2).2; omega, nodup_snoc h.nd hx, by simp; exact h.len⟩

set_option maxRecDepth 100000 in
set_option maxHeartbeats 25600000 in
theorem takes_any (v1 v2 : Value) (l1 l2 : List Int) (t0 u0 : Int) (w : World) (h1 : Rd w v1 l1.length 1 (ints l1)) (h2 : Rd w v2 l2.length 1 (ints l2)) :
    Calls Try.prog 4 #[v1, v2, .int .i64 t0, .int .i64 u0] w (Same w (.bool true)) := by
  obtain ⟨A, c, rfl, _⟩ := h1.slice
  obtain ⟨A2, c2, rfl, _⟩ := h2.slice
  obtain ⟨t, htm⟩ : ∃ t : Nat, max 0 (min t0 7) = (t : Int) := ⟨(max 0 (min t0 7)).toNat, by omega⟩
  obtain ⟨u, hum⟩ : ∃ u : Nat, max 0 (min u0 7) = (u : Int) := ⟨(max 0 (min u0 7)).toNat, by omega⟩
  have ht8 : t < 8 := by omega
  have hu8 : u < 8 := by omega
  have HT8 := Lib.hid ht8
  have HU8 := Lib.hid hu8
  have HTM := Lib.hid htm
  have HUM := Lib.hid hum
  obtain ⟨n, hn⟩ : ∃ n, n = l1.length := ⟨_, rfl⟩
  obtain ⟨n2, hn2⟩ : ∃ n2, n2 = l2.length := ⟨_, rfl⟩
  rw [← hn] at h1 ⊢
  rw [← hn2] at h2 ⊢
  have HLA : Hid (∀ W, Below w.heap.size w W → ∀ k, k < n → ∃ ad, A = some ad ∧ W.cell? (ad.add k) = some (.int .i64 (l1.getD k 0))) := Lib.hid (fun W hW k hk => by
    obtain ⟨ad, e, hc⟩ := rd_at (h1.below hW) k (by rw [← hn]; exact hk)
    exact ⟨ad, e, by rw [hc, List.getD_eq_getElem?_getD, List.getElem?_eq_getElem (by rw [← hn]; exact hk)]; rfl⟩)
  have HLB : Hid (∀ W, Below w.heap.size w W → ∀ k, k < n2 → ∃ ad, A2 = some ad ∧ W.cell? (ad.add k) = some (.int .i64 (l2.getD k 0))) := Lib.hid (fun W hW k hk => by
    obtain ⟨ad, e, hc⟩ := rd_at (h2.below hW) k (by rw [← hn2]; exact hk)
    exact ⟨ad, e, by rw [hc, List.getD_eq_getElem?_getD, List.getElem?_eq_getElem (by rw [← hn2]; exact hk)]; rfl⟩)
  clear h1 h2 hn hn2 htm hum ht8 hu8
  go_enter Try.func4, Try.ntmps4
  go_wp2_with fail
  with_reducible refine (alive_any _).mono ?_
  rintro x1 w1 ⟨rfl, hb1⟩
  have B1 := Lib.hid hb1
  clear hb1
  go_wp2_with fail
  with_reducible refine (near_any t0 0 7 t HTM.out (by decide) _).mono ?_
  rintro x2 w2 ⟨rfl, n2', hw2⟩
  have F2 := Lib.hid (drewN_fr (Fr.refl No w1) hw2)
  clear hw2
  go_wp2_with fail
  with_reducible refine (near_any u0 0 7 u HUM.out (by decide) _).mono ?_
  rintro x3 w3 ⟨rfl, n3', hw3⟩
  have F3 := Lib.hid (drewN_fr F2.out hw3)
  have B3 := Lib.hid (B1.out.trans (F3.out.below B1.out.size (fun _ h => h.elim)))
  clear hw3 F2 F3 B1
  by_cases htu : t = u
  · subst htu
    go_wp2_with fail
    go_ret
    exact ⟨rfl, B3.out⟩
  have HNE := Lib.hid htu
  have g0 : ((t : Int) == (u : Int)) = false := by rw [beq_eq_false_iff_ne]; omega
  clear htu
  go_wp2_with fail
  with_reducible refine (new_any 8 8 (by decide) w3).mono ?_
  rintro x4 w4 ⟨g, v, L4, rfl, hd4, hs4, hb4⟩
  have S4 : Hid (Bufs w4 w.heap.size g v L4) := Lib.hid (hs4.lower B3.out.size)
  have B4 := Lib.hid (B3.out.trans (hb4.mono B3.out.size))
  obtain ⟨D0, hD0⟩ : ∃ D0 : List (List Int), D0 = List.replicate 8 [] := ⟨_, rfl⟩
  have HD0 := Lib.hid hD0
  have D4 : Hid (dat L4 = D0.set t []) := Lib.hid (by
    rw [hd4, hD0]
    exact (set_nil _ t (by unfold getI; rw [if_neg (by omega), List.getElem?_replicate]; split <;> rfl) (by simpa using HT8.out)).symm)
  have HD8 : Hid (D0.length = 8) := Lib.hid (by rw [hD0]; simp)
  have HDN : Hid (∀ p ∈ D0, p.length ≤ 40) := Lib.hid (by rw [hD0]; intro p hp; obtain rfl := List.eq_of_mem_replicate hp; simp)
  clear hd4 hs4 hb4 hD0 g0
  clear B3
  go_wp2_with fail
  go_loopw [10, 12] (fun o i wr => ∃ k : Nat, k ≤ 40 ∧ i = .int .i64 k ∧ Hid (∃ L' W, Side wr w.heap.size g v L' o W k ∧ Bufs wr w.heap.size g v L' ∧ dat L' = D0.set t W ∧ Below w.heap.size w wr)) (fun _ i _ => 40 - (intOf i).toNat)
  case atStart => exact ⟨0, Nat.zero_le _, rfl, Lib.hid ⟨L4, [], ⟨Own.nil _ _, (fun k hk => by cases hk), by simp, by simp⟩, S4.out, D4.out, B4.out⟩⟩
  case round =>
    obtain ⟨k, hk, rfl, HR⟩ := hrel
    rename_i o
    obtain ⟨L', W, hsd, hbf, hdt, hbl⟩ := HR.out
    obtain ⟨Ao, co, rfl, hco⟩ := hsd.own.slice
    have HWN := Lib.hid hsd.len
    obtain ⟨m, hm⟩ : ∃ m, m = W.length := ⟨_, rfl⟩
    have HM := Lib.hid hm
    rw [← hm] at hsd hco ⊢
    have SD := Lib.hid hsd
    have BF := Lib.hid hbf
    have DT := Lib.hid hdt
    have BL := Lib.hid hbl
    clear HR hsd hbf hdt hbl hm
    by_cases hlt : k < n ∧ k < 40
    · obtain ⟨hlt, hlt40⟩ := hlt
      obtain ⟨ad, rfl, x0⟩ := HLA.out _ BL.out k hlt
      obtain ⟨x, hx⟩ : ∃ x, x = l1.getD k 0 := ⟨_, rfl⟩
      rw [← hx] at x0
      have HX := Lib.hid (show ∀ W', Below w.heap.size w W' → W'.cell? (ad.add k) = some (.int .i64 x) from fun W' hW' => by
        obtain ⟨ad', e, hc⟩ := HLA.out W' hW' k hlt
        injection e with e
        subst e
        rw [hc, hx])
      have i1 : (0 : Int) ≤ (k : Int) := Int.natCast_nonneg _
      have i2 : (k : Int) < (n : Int) := by omega
      have i3 : (k : Int) < 40 := by omega
      have HLT := Lib.hid hlt40
      clear hx hlt hlt40
      go_wp2_with fail
      with_reducible refine (put_any w.heap.size g v L' t x (by rw [DT.out]; exact fun p hp => Nat.le_trans (tot_set8 _ _ 40 _ HDN.out (by have := HWN.out; omega) p hp) (by decide)) _ BF.out).mono ?_
      rintro e6 w6 ⟨L6, rfl, hd6, hb6, hf6, hm6⟩
      have BL6 := Lib.hid (BL.out.trans (BF.out.below hf6 BL.out.size))
      have BF6 := Lib.hid hb6
      have x6 := HX.out w6 BL6.out
      rw [DT.out, put_set _ _ (by rw [HD8.out]; exact HT8.out)] at hd6
      have SD6 : Hid (Side w6 w.heap.size g v L6 (.slice Ao m co) W k) := Lib.hid (SD.out.fr hf6 SD.out.sep hm6 (Nat.le_refl _))
      rw [DT.out]
      cases hok : okPut (D0.set t W) (t : Int) x with
      | true =>
        rw [hok, if_pos rfl] at hd6
        have DT6 := Lib.hid hd6
        have HNX := Lib.hid (ok_new _ _ (by rw [HD8.out]; exact HT8.out) _ _ hok)
        have z6 : (w6.alloc (.cells #[.int .i64 x] 3)).heap[w6.heap.size]? = some (.cells #[.int .i64 x] 3 (0, 0)) := heap_alloc_new _ _
        have Z6 := Lib.hid z6
        clear hok hd6 hb6 hf6 hm6 x0 z6
        go_wp2_with (at_builtin; refine app_one (l := W) (y := x) rfl _ _ rfl rfl (SD6.out.own.fr (Fr.alloc (Fr.refl No _) _) (fun _ _ h => h)) rfl rfl Z6.out (by decide) (by have := HWN.out; omega) (by have := BL6.out.size; simp; omega) ?_; intro v7 w7 h1 h2 h3; refine Hid.out ?_)
        have F67 := Lib.hid (show Fr (fun j => (Value.slice Ao m co).ownBlock = some j) w6 w7 from Fr.grown ((Fr.refl _ w6).alloc _) h2 (fun j hj => .inl hj))
        have BF7 : Hid (Bufs w7 w.heap.size g v L6) := Lib.hid (BF6.out.fr F67.out (fun j hj h => SD6.out.sep j h hj))
        have SD7 : Hid (Side w7 w.heap.size g v L6 v7 (W ++ [x]) (k + 1)) := Lib.hid (SD6.out.snoc h1 (h3.imp id (fun h => ⟨_, h, by simp⟩)) HNX.out BF6.out)
        have BL7 : Hid (Below w.heap.size w w7) := Lib.hid (BL6.out.trans (F67.out.below BL6.out.size (fun j hj => (SD6.out.own.lt j hj).1)))
        obtain ⟨A7, c7, rfl, _⟩ := h1.slice
        clear h1 h2 h3
        refine Lib.hid ?_
        go_wp2_with fail
        go_roundw
        case rel => exact ⟨k + 1, HLT.out, by go_num, Lib.hid ⟨L6, W ++ [x], SD7.out, BF7.out, DT6.out, BL7.out⟩⟩
        case measure => have := HLT.out; simp [intOf]; omega
      | false =>
        rw [hok, if_neg (by decide)] at hd6
        have DT6 := Lib.hid hd6
        clear hok hd6 hb6 hf6 hm6 x0
        go_wp2_with fail
        go_roundw
        case rel => exact ⟨k + 1, HLT.out, by go_num, Lib.hid ⟨L6, W, ⟨SD6.out.own, SD6.out.sep, SD6.out.nd, Nat.le_succ_of_le SD6.out.len⟩, BF6.out, DT6.out, BL6.out⟩⟩
        case measure => have := HLT.out; simp [intOf]; omega
    · have HW40 : Hid (W.length ≤ 40) := Lib.hid (by have := HWN.out; omega)
      have hcase : ((n : Int) ≤ (k : Int)) ∨ ((k : Int) < (n : Int) ∧ 40 ≤ (k : Int)) := by omega
      have i1 : (0 : Int) ≤ (k : Int) := Int.natCast_nonneg _
      clear hlt hk
      rcases hcase with hge | ⟨hlt, hge⟩
      all_goals
      have D1e : Hid (∃ D1, D1 = D0.set t W) := Lib.hid ⟨_, rfl⟩
      obtain ⟨D1, hD1⟩ := D1e.out
      have S5 := BF
      have B5 := BL
      have D51 : Hid (dat L' = D1.set u []) := Lib.hid (by
        rw [DT.out, ← hD1]
        exact (set_nil D1 u (by rw [hD1, get_other _ _ _ HNE.out, HD0.out]; unfold getI; rw [if_neg (by omega), List.getElem?_replicate]; split <;> rfl) (by rw [hD1, List.length_set, HD8.out]; exact HU8.out)).symm)
      have HD1 := Lib.hid hD1
      have HD18 : Hid (D1.length = 8) := Lib.hid (by rw [hD1, List.length_set]; exact HD8.out)
      have HD1N : Hid (∀ p ∈ D1, p.length ≤ 40) := Lib.hid (by rw [hD1]; exact tot_set8 _ _ _ _ HDN.out HW40.out)
      obtain ⟨W0, hW0⟩ : ∃ W0, W0 = W := ⟨_, rfl⟩
      obtain ⟨L5, hL5⟩ : ∃ L5, L5 = L' := ⟨_, rfl⟩
      obtain ⟨Aw, hAw⟩ : ∃ Aw, Aw = Ao := ⟨_, rfl⟩
      obtain ⟨nw, hnw⟩ : ∃ nw, nw = m := ⟨_, rfl⟩
      obtain ⟨cw, hcw⟩ : ∃ cw, cw = co := ⟨_, rfl⟩
      obtain ⟨w5, hw5⟩ : ∃ w5, w5 = wr := ⟨_, rfl⟩
      have W5 : Hid (Side w5 w.heap.size g v L5 (.slice Aw nw cw) W0 40) := Lib.hid (by rw [hw5, hL5, hAw, hnw, hcw, hW0]; exact ⟨SD.out.own, SD.out.sep, SD.out.nd, HW40.out⟩)
      rw [← hL5, ← hw5] at S5
      rw [← hL5] at D51
      rw [← hw5] at B5 ⊢
      rw [← hAw, ← hnw, ← hcw]
      rw [← hW0, ← hnw] at HM
      rw [← hW0] at HD1 HW40
      have HMW := HM
      clear hW0 hL5 hAw hnw hcw hw5 SD BF BL DT hD1 D1e HM
      go_wp2_with fail
      go_loopw [11, 13] (fun o i wr => ∃ k : Nat, k ≤ 40 ∧ i = .int .i64 k ∧ Hid (∃ L' W, Side wr w.heap.size g v L' o W k ∧ Bufs wr w.heap.size g v L' ∧ dat L' = D1.set u W ∧ Below w.heap.size w wr ∧ Side wr w.heap.size g v L' (.slice Aw nw cw) W0 40 ∧ (∀ k, (Value.slice Aw nw cw).ownBlock = some k → o.ownBlock ≠ some k))) (fun _ i _ => 40 - (intOf i).toNat)
      case atStart => exact ⟨0, Nat.zero_le _, rfl, Lib.hid ⟨L5, [], ⟨Own.nil _ _, (fun k hk => by cases hk), by simp, by simp⟩, S5.out, D51.out, B5.out, W5.out, (fun k _ h => by cases h)⟩⟩
      case round =>
        obtain ⟨k, hk, rfl, HR⟩ := hrel
        rename_i o
        obtain ⟨L', W, hsd, hbf, hdt, hbl, hsw, hne⟩ := HR.out
        obtain ⟨Ao, co, rfl, hco⟩ := hsd.own.slice
        have HWN := Lib.hid hsd.len
        obtain ⟨m, hm⟩ : ∃ m, m = W.length := ⟨_, rfl⟩
        have HM := Lib.hid hm
        rw [← hm] at hsd hco hne ⊢
        have SD := Lib.hid hsd
        have BF := Lib.hid hbf
        have DT := Lib.hid hdt
        have BL := Lib.hid hbl
        have SW := Lib.hid hsw
        have NE := Lib.hid hne
        clear hsw hne
        clear HR hsd hbf hdt hbl hm
        by_cases hlt : k < n2 ∧ k < 40
        · obtain ⟨hlt, hlt40⟩ := hlt
          obtain ⟨ad, rfl, x0⟩ := HLB.out _ BL.out k hlt
          obtain ⟨x, hx⟩ : ∃ x, x = l2.getD k 0 := ⟨_, rfl⟩
          rw [← hx] at x0
          have HX := Lib.hid (show ∀ W', Below w.heap.size w W' → W'.cell? (ad.add k) = some (.int .i64 x) from fun W' hW' => by
            obtain ⟨ad', e, hc⟩ := HLB.out W' hW' k hlt
            injection e with e
            subst e
            rw [hc, hx])
          have i1 : (0 : Int) ≤ (k : Int) := Int.natCast_nonneg _
          have i2 : (k : Int) < (n2 : Int) := by omega
          have i3 : (k : Int) < 40 := by omega
          have HLT := Lib.hid hlt40
          clear hx hlt hlt40
          go_wp2_with fail
          with_reducible refine (put_any w.heap.size g v L' u x (by rw [DT.out]; exact fun p hp => Nat.le_trans (tot_set8 _ _ 40 _ HD1N.out (by have := HWN.out; omega) p hp) (by decide)) _ BF.out).mono ?_
          rintro e6 w6 ⟨L6, rfl, hd6, hb6, hf6, hm6⟩
          have BL6 := Lib.hid (BL.out.trans (BF.out.below hf6 BL.out.size))
          have BF6 := Lib.hid hb6
          have x6 := HX.out w6 BL6.out
          rw [DT.out, put_set _ _ (by rw [HD18.out]; exact HU8.out)] at hd6
          have SD6 : Hid (Side w6 w.heap.size g v L6 (.slice Ao m co) W k) := Lib.hid (SD.out.fr hf6 SD.out.sep hm6 (Nat.le_refl _))
          have SW6 : Hid (Side w6 w.heap.size g v L6 (.slice Aw nw cw) W0 40) := Lib.hid (SW.out.fr hf6 SW.out.sep hm6 (Nat.le_refl _))
          rw [DT.out]
          cases hok : okPut (D1.set u W) (u : Int) x with
          | true =>
            rw [hok, if_pos rfl] at hd6
            have DT6 := Lib.hid hd6
            have HNX := Lib.hid (ok_new _ _ (by rw [HD18.out]; exact HU8.out) _ _ hok)
            have z6 : (w6.alloc (.cells #[.int .i64 x] 3)).heap[w6.heap.size]? = some (.cells #[.int .i64 x] 3 (0, 0)) := heap_alloc_new _ _
            have Z6 := Lib.hid z6
            clear hok hd6 hb6 hf6 hm6 x0 z6
            go_wp2_with (at_builtin; refine app_one (l := W) (y := x) rfl _ _ rfl rfl (SD6.out.own.fr (Fr.alloc (Fr.refl No _) _) (fun _ _ h => h)) rfl rfl Z6.out (by decide) (by have := HWN.out; omega) (by have := BL6.out.size; simp; omega) ?_; intro v7 w7 h1 h2 h3; refine Hid.out ?_)
            have F67 := Lib.hid (show Fr (fun j => (Value.slice Ao m co).ownBlock = some j) w6 w7 from Fr.grown ((Fr.refl _ w6).alloc _) h2 (fun j hj => .inl hj))
            have BF7 : Hid (Bufs w7 w.heap.size g v L6) := Lib.hid (BF6.out.fr F67.out (fun j hj h => SD6.out.sep j h hj))
            have SD7 : Hid (Side w7 w.heap.size g v L6 v7 (W ++ [x]) (k + 1)) := Lib.hid (SD6.out.snoc h1 (h3.imp id (fun h => ⟨_, h, by simp⟩)) HNX.out BF6.out)
            have BL7 : Hid (Below w.heap.size w w7) := Lib.hid (BL6.out.trans (F67.out.below BL6.out.size (fun j hj => (SD6.out.own.lt j hj).1)))
            have SW7 : Hid (Side w7 w.heap.size g v L6 (.slice Aw nw cw) W0 40) := Lib.hid (SW6.out.fr F67.out (fun j hj => NE.out j hj) (fun j hj => .inl hj) (Nat.le_refl _))
            have NE7 : Hid (∀ k, (Value.slice Aw nw cw).ownBlock = some k → v7.ownBlock ≠ some k) := Lib.hid (fun j hj e => by
              rcases h3 with h3 | h3
              · exact NE.out j hj (h3.symm.trans e)
              · rw [e] at h3; injection h3 with h3; have := (SW6.out.own.lt j hj).2; simp at h3; omega)
            obtain ⟨A7, c7, rfl, _⟩ := h1.slice
            clear h1 h2 h3
            refine Lib.hid ?_
            go_wp2_with fail
            go_roundw
            case rel => exact ⟨k + 1, HLT.out, by go_num, Lib.hid ⟨L6, W ++ [x], SD7.out, BF7.out, DT6.out, BL7.out, SW7.out, NE7.out⟩⟩
            case measure => have := HLT.out; simp [intOf]; omega
          | false =>
            rw [hok, if_neg (by decide)] at hd6
            have DT6 := Lib.hid hd6
            clear hok hd6 hb6 hf6 hm6 x0
            go_wp2_with fail
            go_roundw
            case rel => exact ⟨k + 1, HLT.out, by go_num, Lib.hid ⟨L6, W, ⟨SD6.out.own, SD6.out.sep, SD6.out.nd, Nat.le_succ_of_le SD6.out.len⟩, BF6.out, DT6.out, BL6.out, SW6.out, NE.out⟩⟩
            case measure => have := HLT.out; simp [intOf]; omega
        · have HW40 : Hid (W.length ≤ 40) := Lib.hid (by have := HWN.out; omega)
          have hcase : ((n2 : Int) ≤ (k : Int)) ∨ ((k : Int) < (n2 : Int) ∧ 40 ≤ (k : Int)) := by omega
          have i1 : (0 : Int) ≤ (k : Int) := Int.natCast_nonneg _
          clear hlt hk
          rcases hcase with hge | ⟨hlt, hge⟩
          all_goals
            have HMO := HM
            have W0e : Hid (getI (dat L') (t : Int) = W0) := Lib.hid (by rw [DT.out, get_other _ _ _ (Ne.symm HNE.out), HD1.out, get_set _ _ (by rw [HD8.out]; exact HT8.out)])
            have D0t : Hid (getI (D0.set u W) (t : Int) = []) := Lib.hid (by rw [get_other _ _ _ (Ne.symm HNE.out), HD0.out]; unfold getI; rw [if_neg (by omega), List.getElem?_replicate]; split <;> rfl)
            have D7e : Hid (takeD (dat L') (t : Int) = D0.set u W) := Lib.hid (by
              rw [DT.out, HD1.out, List.set_comm _ _ HNE.out, take_set _ _ (by rw [List.length_set, HD8.out]; exact HT8.out)]
              exact set_nil _ t D0t.out (by rw [List.length_set, HD8.out]; exact HT8.out))
            have D8e : Hid (takeD (D0.set u W) (t : Int) = D0.set u W) := Lib.hid (by
              unfold takeD
              split
              · rw [show ((t : Int)).toNat = t by omega]; exact set_nil _ t D0t.out (by rw [List.length_set, HD8.out]; exact HT8.out)
              · rfl)
            have HSM : Hid (sumD (D0.set u W) = m) := Lib.hid (by rw [HD0.out, sum_one u HU8.out, HMO.out])
            have HTN : Hid (∀ p ∈ D0.set u W, p.length ≤ 1000000) := Lib.hid (fun p hp => Nat.le_trans (tot_set8 _ _ 40 _ HDN.out (by have := HW40.out; omega) p hp) (by decide))
            have HW0 := Lib.hid SW.out.len
            have hm40 : m ≤ 1000000 := by have := HW40.out; have := HMO.out; omega
            go_wp2_with fail
            with_reducible refine (take_any w.heap.size g v L' (t : Int) _ BF.out).mono ?_
            rintro e7 w7 ⟨u7, L7, rfl, ho7, hd7, hb7, hf7, hm7, hq7⟩
            rw [W0e.out] at ho7
            rw [D7e.out] at hd7
            have BF7 := Lib.hid hb7
            have SW7 : Hid (Side w7 w.heap.size g v L7 (.slice Aw nw cw) W0 40) := Lib.hid (SW.out.fr hf7 SW.out.sep (fun j hj => .inl (hm7 j hj)) (Nat.le_refl _))
            have BL7 := Lib.hid (BL.out.trans (BF.out.below hf7 BL.out.size))
            have O7 := Lib.hid ho7
            have D7 := Lib.hid hd7
            have Q7 := Lib.hid (show ∀ j, u7.ownBlock = some j → ¬ Foot g v L7 j from fun j hj => (hq7 j hj).2)
            obtain ⟨A7, c7, rfl, _⟩ := ho7.slice
            obtain ⟨q7, hq7'⟩ : ∃ q7, q7 = W0.length := ⟨_, rfl⟩
            rw [← hq7'] at O7 Q7 ⊢
            have HQ7 := Lib.hid hq7'
            clear ho7 hd7 hb7 hf7 hm7 hq7 hq7'
            go_wp2_with fail
            with_reducible refine (take_any w.heap.size g v L7 (t : Int) _ BF7.out).mono ?_
            rintro e8 w8 ⟨u8, L8, rfl, ho8, hd8, hb8, hf8, hm8, hq8⟩
            rw [D7.out, D0t.out] at ho8
            rw [D7.out, D8e.out] at hd8
            have BF8 := Lib.hid hb8
            have SW8 : Hid (Side w8 w.heap.size g v L8 (.slice Aw nw cw) W0 40) := Lib.hid (SW7.out.fr hf8 SW7.out.sep (fun j hj => .inl (hm8 j hj)) (Nat.le_refl _))
            have O78 : Hid (Own w8 w.heap.size (.slice A7 q7 c7) W0) := Lib.hid (O7.out.fr hf8 Q7.out)
            have BL8 := Lib.hid (BL7.out.trans (BF7.out.below hf8 BL7.out.size))
            have D8 := Lib.hid hd8
            obtain ⟨A8, c8, rfl, _⟩ := ho8.slice
            clear ho8 hd8 hb8 hf8 hm8 hq8
            go_wp2_with fail
            with_reducible refine (same_any A7 Aw q7 nw c7 cw W0 HQ7.out HMW.out _ (by have h := O78.out.rd; rw [← HQ7.out] at h; exact h) (by have h := SW8.out.own.rd; rw [← HMW.out] at h; exact h) (by have := HW0.out; omega)).mono ?_
            rintro e9 w9 ⟨rfl, n9, hw9⟩
            have F9 := Lib.hid (drewN_fr (Fr.refl No w8) hw9)
            clear hw9
            go_wp2_with fail
            with_reducible refine (Rising.rising_any Aw nw cw W0 HMW.out _ (by have h := (SW8.out.own.fr F9.out (fun _ _ h => h)).rd; rw [← HMW.out] at h; exact h) (by have := HW0.out; omega)).mono ?_
            rintro e10 w10 ⟨v10, rfl, ho10, hb10⟩
            have F10 := Lib.hid (F9.out.then_below hb10)
            obtain ⟨A10, c10, rfl, _⟩ := ho10.slice
            rw [Rising.rising_length W0 SW8.out.nd, ← HMW.out]
            clear ho10 hb10
            go_wp2_with fail
            with_reducible refine (clear_any w.heap.size g v L8 (by rw [D8.out]; exact HTN.out) _ (BF8.out.no F10.out)).mono ?_
            rintro e11 w11 ⟨L11, rfl, hd11, hb11, hf11, _⟩
            rw [D8.out, HSM.out]
            have BF11 := Lib.hid hb11
            have BL11 := Lib.hid (BL8.out.trans (BF8.out.below ((F10.out.mono (fun _ h => h.elim)).trans hf11 (fun i hi => .inl hi)) BL8.out.size))
            have D11 : Hid (emptyB (dat L11) = true) := Lib.hid (by
              rw [hd11]
              unfold emptyB
              rw [List.all_eq_true]
              intro p hp
              obtain rfl := List.eq_of_mem_replicate hp
              rfl)
            clear hd11 hb11 hf11
            go_wp2_with fail
            with_reducible refine (empty_any w.heap.size g v L11 _ BF11.out).mono ?_
            rintro e12 w12 ⟨rfl, n12, hw12⟩
            rw [D11.out]
            have F12 := Lib.hid (drewN_fr (Fr.refl No w11) hw12)
            clear hw12
            go_wp2_with fail
            go_ret
            exact ⟨rfl, BL11.out.trans (F12.out.below BL11.out.size (fun _ h => h.elim))⟩

end Go.Proofs.Ytmgfidepjclobaa.BufTakes
