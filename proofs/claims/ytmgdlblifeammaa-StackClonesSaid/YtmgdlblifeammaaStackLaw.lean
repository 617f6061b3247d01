/- Proved: what the Go laws' own helpers of package scutagelaw17 do and answer. -/
import Derived.Test.YtmgdlblifeammaaStack
import Derived.Deep.DeepCutAuto
import Derived.Deep.LoopGhost
import Derived.Outline
namespace Go.Proofs.Ytmgdlblifeammaa.StackLaw
open Go.RowKit Go.Proofs.Ytmgdlblifeammaa.H Go.Proofs.Ytmgdlblifeammaa.Stack

set_option maxHeartbeats 3200000 in
theorem alive_any (w : World) : Calls Try.prog 6 #[] w (Same w (.bool true)) := by
  go_enter Try.func6, Try.ntmps6
  go_wp2_with fail
  refine (new_any 1 1 rfl _).mono ?_
  rintro e w1 ⟨g, rfl, hs1, hb1⟩
  have H1 := Lib.hid hs1
  have B1 := Lib.hid hb1
  clear hs1 hb1
  go_wp2_with fail
  refine (push_room _ g _ [] 1 false 4 0 _ H1.out (by decide)).mono ?_
  rintro e w2 ⟨rfl, v2, hs2, _, hf2⟩
  have H2 := Lib.hid hs2
  have B2 := Lib.hid (B1.out.trans (H1.out.below hf2 B1.out.size))
  clear hs2 hf2 H1 B1
  go_wp2_with fail
  refine (push_full _ g _ _ 1 false 5 0 _ H2.out (by decide)).mono ?_
  rintro e w3 ⟨rfl, hs3, hf3⟩
  have H3 := Lib.hid hs3
  have B3 := Lib.hid (B2.out.trans (H2.out.below hf3 B2.out.size))
  clear hs3 hf3 H2 B2
  go_wp2_with fail
  refine (pop_some _ g _ [] 4 0 1 true _ H3.out).mono ?_
  rintro e w4 ⟨rfl, v4, hs4, _, hf4⟩
  have H4 := Lib.hid hs4
  have B4 := Lib.hid (B3.out.trans (H3.out.below hf4 B3.out.size))
  clear hs4 hf4 H3 B3
  go_wp2_with fail
  refine (over_any _ g _ [] 1 true _ (H4.out.fr (S := No) (by repeat (first | exact Fr.refl _ _ | apply Fr.drewN | apply Fr.drew | apply Fr.alloc)) (fun _ _ h => h))).mono ?_
  rintro e w5 ⟨rfl, n5, rfl⟩
  go_wp2_with fail
  refine (settle_any _ g _ [] 1 true _ (H4.out.fr (S := No) (by repeat (first | exact Fr.refl _ _ | apply Fr.drewN | apply Fr.drew | apply Fr.alloc)) (fun _ _ h => h))).mono ?_
  rintro e w6 ⟨rfl, hs6, hf6⟩
  have H6 := Lib.hid hs6
  have B6 := Lib.hid (B4.out.trans ((Fr.below (B := w.heap.size) (S := No) (by repeat (first | exact Fr.refl _ _ | apply Fr.drewN | apply Fr.drew | apply Fr.alloc)) B4.out.size (fun _ h => h.elim)).trans ((H4.out.fr (S := No) (by repeat (first | exact Fr.refl _ _ | apply Fr.drewN | apply Fr.drew | apply Fr.alloc)) (fun _ _ h => h)).below hf6 (by have := B4.out.size; simp; omega))))
  clear hs6 hf6
  go_wp2_with fail
  refine (over_any _ g _ [] 1 false _ H6.out).mono ?_
  rintro e w7 ⟨rfl, n7, rfl⟩
  go_wp2
  go_ret
  exact ⟨rfl, ((Fr.of_below B6.out No).drewN n7).below (Nat.le_refl _) (fun _ h => h.elim)⟩

theorem near_any (n r : Int) (hr : max 1 (min n 256) = r) (w : World) :
    Calls Try.prog 7 #[.int .i64 n, .int .i64 1, .int .i64 256] w (Quiet w (.int .i64 r)) := by
  subst hr
  by_cases h1 : n < 1
  · have e : max 1 (min n 256) = 1 := by omega
    rw [e]
    go_enter Try.func7, Try.ntmps7
    go_wp2
    go_ret
    exact ⟨rfl, 0, rfl⟩
  by_cases h2 : 256 < n
  · have e : max 1 (min n 256) = 256 := by omega
    rw [e]
    go_enter Try.func7, Try.ntmps7
    go_wp2
    go_ret
    exact ⟨rfl, 0, rfl⟩
  · have e : max 1 (min n 256) = n := by omega
    rw [e]
    go_enter Try.func7, Try.ntmps7
    go_wp2
    go_ret
    exact ⟨rfl, 0, rfl⟩

/-- where the first part of StackLoses stands -/
structure LosesAt (w : World) (r : Int) (g : Nat) (v1 : Value) (l1 : List (Int × Int)) (wc : World) : Prop where
  len : l1.length ≤ 300
  rd : Rd w v1 l1.length 2 (ents l1)
  stk : Stk wc w.heap.size g (.slice none 0 0) [] r false
  below : Below w.heap.size w wc

set_option maxRecDepth 100000 in
set_option maxHeartbeats 6400000 in
theorem loses_any (n : Int) (v : Value) (l : List (Int × Int)) (w : World) (hr : Rd w v l.length 2 (ents l)) (hl : l.length ≤ 100000000000000) :
    Calls Try.prog 3 #[.int .i64 n, v] w (Same w (.bool true)) := by
  obtain ⟨A, c, rfl, hc⟩ := hr.slice
  obtain ⟨r, hrm⟩ : ∃ r, max 1 (min n 256) = r := ⟨_, rfl⟩
  have r0 : 1 ≤ r := by omega
  have r1 : r ≤ 256 := by omega
  have HR := Lib.hid hr
  have HM := Lib.hid hrm
  clear hr hrm
  go_enter Try.func3, Try.ntmps3
  go_wp2_with fail
  refine (alive_any _).mono ?_
  rintro e w1 ⟨rfl, hb1⟩
  have B1 := Lib.hid hb1
  clear hb1
  go_wp2_with fail
  refine (near_any n r HM.out _).mono ?_
  rintro e w2 ⟨rfl, n2, rfl⟩
  go_wp2_with fail
  refine (new_any n r HM.out _).mono ?_
  rintro e w3 ⟨g, rfl, hs3, hb3⟩
  have H3 := Lib.hid hs3
  have B3 := Lib.hid hb3
  clear hs3 hb3
  have L : Hid (Below w.heap.size w w3 ∧ Stk w3 w.heap.size g (.slice none 0 0) [] r false) := by
    have hb : Below w.heap.size w w3 := ((Fr.of_below B1.out No).drewN n2 |>.then_below B3.out).below (Nat.le_refl _) (fun _ h => h.elim)
    have h := H3.out
    have hz := B1.out.size
    exact Lib.hid ⟨hb, h.blk, World.ownsRow_nil _ _ _ _, by have := h.base; simp at this; omega, h.r0, h.r1, h.len⟩
  clear H3 B3 B1
  go_upto_if 21 with (fail)
  go_cut [1] (fun v1 wc => ∃ l1 : List (Int × Int), Hid (LosesAt w r g v1 l1 wc))
  case first =>
    by_cases h3 : 300 < l.length
    · go_wp2
      go_meet
      case rel =>
        have ht := HR.out.take (m := 300) (by omega)
        rw [ents_take] at ht
        have e3 : (l.take 300).length = 300 := by simp; omega
        exact ⟨l.take 300, Lib.hid ⟨by omega, by rw [e3]; exact ht, L.out.2, L.out.1⟩⟩
    · go_wp2
      go_meet
      case rel => exact ⟨l, Lib.hid ⟨by omega, HR.out, L.out.2, L.out.1⟩⟩
  case rest =>
    obtain ⟨l1, HL⟩ := hcut
    obtain ⟨A1, c1, rfl, _⟩ := HL.out.rd.slice
    have hl1 := HL.out.len
    clear L HR
    go_wp2_with fail
    go_loopw [7] (fun i wr => ∃ k : Nat, k ≤ l1.length ∧ i = .int .i64 k ∧ Hid (Below w.heap.size w wr ∧ ∃ v', Stk wr w.heap.size g v' (l1.take (min k r.toNat)) r (decide (r < k)))) (fun i _ => l1.length - (intOf i).toNat)
    case atStart => exact ⟨0, Nat.zero_le _, rfl, Lib.hid ⟨HL.out.below, .slice none 0 0, by rw [Nat.zero_min, List.take_zero, decide_eq_false (by omega)]; exact HL.out.stk⟩⟩
    case round =>
      obtain ⟨k, hk, rfl, HK⟩ := hrel
      by_cases hlt : k < l1.length
      · obtain ⟨ad, rfl, x0, x1⟩ := rd_at (HL.out.rd.below HK.out.1) k hlt
        obtain ⟨v', hs⟩ := HK.out.2
        have HS := Lib.hid hs
        clear hs
        by_cases hkr : (k : Int) < r
        · have HS2 : Hid (Stk wr w.heap.size g v' (l1.take k) r (decide (r < k))) := Lib.hid (by
            have h := HS.out
            rw [Nat.min_eq_left (by omega)] at h
            exact h)
          have e1 : decide ((k : Int) < r) = true := decide_eq_true hkr
          go_wp2_with fail
          refine (push_room _ g _ _ r _ _ _ _ HS2.out (by have := List.length_take_le k l1; omega)).mono ?_
          rintro e w4 ⟨rfl, v4, hs4, _, hf4⟩
          have H4 := Lib.hid hs4
          have B4 := Lib.hid (HK.out.1.trans (HS2.out.below hf4 HK.out.1.size))
          clear hs4 hf4
          go_wp2
          go_roundw
          case rel =>
            refine ⟨k + 1, by omega, by go_num, Lib.hid ⟨B4.out, v4, ?_⟩⟩
            have h := H4.out
            rw [Nat.min_eq_left (by omega), List.take_succ_eq_append_getElem hlt, decide_eq_false (by omega)]
            rw [decide_eq_false (by omega)] at h
            exact h
          case measure => simp [intOf]; omega
        · have HS2 : Hid (Stk wr w.heap.size g v' (l1.take r.toNat) r (decide (r < k))) := Lib.hid (by
            have h := HS.out
            rw [Nat.min_eq_right (by omega)] at h
            exact h)
          have e1 : decide ((k : Int) < r) = false := decide_eq_false hkr
          go_wp2_with fail
          refine (push_full _ g _ _ r _ _ _ _ HS2.out (by rw [List.length_take]; omega)).mono ?_
          rintro e w4 ⟨rfl, hs4, hf4⟩
          have H4 := Lib.hid hs4
          have B4 := Lib.hid (HK.out.1.trans (HS2.out.below hf4 HK.out.1.size))
          clear hs4 hf4
          go_wp2
          go_roundw
          case rel =>
            refine ⟨k + 1, by omega, by go_num, Lib.hid ⟨B4.out, v', ?_⟩⟩
            have h := H4.out
            rw [Nat.min_eq_right (by omega), decide_eq_true (by omega)]
            exact h
          case measure => simp [intOf]; omega
      · obtain rfl : k = l1.length := by omega
        obtain ⟨v', hs⟩ := HK.out.2
        have HS := Lib.hid hs
        clear hs hk
        go_wp2_with fail
        refine (over_any _ g _ _ r _ _ HS.out).mono ?_
        rintro e w5 ⟨rfl, n5, rfl⟩
        obtain ⟨wo, rfl⟩ : ∃ wo : World, wo = wr := ⟨_, rfl⟩
        have HB5 := Lib.hid HK.out.1
        have HRD := Lib.hid HL.out.rd
        clear HK HL
        go_wp2_with fail
        all_goals
          go_loopw [8] (fun i wq => ∃ j : Nat, (j : Int) ≤ r ∧ j ≤ l1.length ∧ i = .int .i64 ((j : Int) - 1) ∧ Hid (Below w.heap.size w wq ∧ ∃ v', Stk wq w.heap.size g v' (l1.take j) r (decide (r < (l1.length : Int))))) (fun i _ => (intOf i + 1).toNat)
          case atStart =>
            refine ⟨min l1.length r.toNat, by omega, by omega, by congr 1; omega, Lib.hid ⟨((Fr.of_below HB5.out No).drewN n5).below (Nat.le_refl _) (fun _ h => h.elim), v', ?_⟩⟩
            exact HS.out.fr (Fr.drewN (Fr.refl No _) n5) (fun _ _ h => h)
          case round =>
            obtain ⟨j, hjr, hj, rfl, HQ⟩ := hrel
            obtain ⟨v6, hs6⟩ := HQ.out.2
            have H6 := Lib.hid hs6
            clear hs6
            cases j with
            | succ j =>
              rw [show ((j + 1 : Nat) : Int) - 1 = (j : Int) by omega]
              have hlt : j < l1.length := by omega
              obtain ⟨ad, rfl, x0, x1⟩ := rd_at HRD.out j hlt
              have H7 : Hid (Stk wr w.heap.size g v6 (l1.take j ++ [((l1[j]).1, (l1[j]).2)]) r (decide (r < (l1.length : Int)))) := Lib.hid (by
                have h := H6.out
                rw [List.take_succ_eq_append_getElem hlt] at h
                exact h)
              clear H6
              go_wp2_with fail
              refine (pop_some _ g _ _ _ _ r _ _ H7.out).mono ?_
              rintro e w8 ⟨rfl, v8, hs8, _, hf8⟩
              have H8 := Lib.hid hs8
              have B8 := Lib.hid (HQ.out.1.trans (H7.out.below hf8 HQ.out.1.size))
              clear hs8 hf8
              have y0 := (B8.out.cell (World.block_lt_of_cell? _ _ x0)).trans x0
              have y1 := (B8.out.cell (World.block_lt_of_cell? _ _ x1)).trans x1
              have n0 := World.new_ne w8 _ y0
              have n1 := World.new_ne w8 _ y1
              have z0 := fun o : Obj => (((Below.refl _ w8).alloc (Nat.le_refl _) o).cell (World.block_lt_of_cell? _ _ y0)).trans y0
              have z1 := fun o : Obj => (((Below.refl _ w8).alloc (Nat.le_refl _) o).cell (World.block_lt_of_cell? _ _ y1)).trans y1
              clear x0 x1
              go_wp2_with fail
              go_quiet (fail)
              go_wp2
              go_roundw
              case rel =>
                refine ⟨j, by omega, by omega, rfl, Lib.hid ⟨((Fr.of_below B8.out No).alloc _ |>.drewN _).below (Nat.le_refl _) (fun _ h => h.elim), v8, ?_⟩⟩
                exact H8.out.fr (S := No) (by repeat (first | exact Fr.refl _ _ | apply Fr.drewN | apply Fr.drew | apply Fr.alloc)) (fun _ _ h => h)
              case measure => simp [intOf]
            | zero =>
              rw [show ((0 : Nat) : Int) - 1 = -1 by omega]
              have H7 : Hid (Stk wr w.heap.size g v6 [] r (decide (r < (l1.length : Int)))) := Lib.hid H6.out
              clear H6
              go_wp2_with fail
              refine (pop_none _ g _ r _ _ H7.out).mono ?_
              rintro e w8 ⟨rfl, hb8⟩
              have B8 := Lib.hid (HQ.out.1.trans (hb8.mono HQ.out.1.size))
              clear hb8
              go_wp2
              go_ret
              exact ⟨rfl, (Fr.of_below B8.out No |>.alloc _).below (Nat.le_refl _) (fun _ h => h.elim)⟩

end Go.Proofs.Ytmgdlblifeammaa.StackLaw
