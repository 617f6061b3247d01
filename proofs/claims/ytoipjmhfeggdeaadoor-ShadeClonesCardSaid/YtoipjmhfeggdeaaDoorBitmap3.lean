/- Proved: what Next, Count, All of package bitmap do and answer. -/
import Derived.Test.YtoipjmhfeggdeaaDoorBitmap2
namespace Go.Proofs.YtoipjmhfeggdeaaDoor.Bitmap
open Go.RowKit Go.Proofs.YtoipjmhfeggdeaaDoor.H Go.Proofs.YtoipjmhfeggdeaaDoor.Nums Go.Proofs.YtoipjmhfeggdeaaDoor.BitPure
set_option linter.unusedVariables false

/-- what is left to look at from i on: word j's bits are x's -/
structure Rest (ws : List Nat) (i j x : Nat) : Prop where
  lt : x < 18446744073709551616
  bit : ∀ b, b < 64 → x.testBit b = (decide (i ≤ 64 * j + b) && has ws (64 * j + b))
  none : ∀ m, i ≤ m → m < 64 * j → has ws m = false

theorem has_at (ws : List Nat) (j b : Nat) (hb : b < 64) : has ws (64 * j + b) = (wd ws j).testBit b := by
  unfold has
  rw [show (64 * j + b) / 64 = j by omega, show (64 * j + b) % 64 = b by omega]

theorem rest_start (ws : List Nat) (i : Nat) (h : wd ws (i / 64) < 18446744073709551616) : Rest ws i (i / 64) (cutLow (wd ws (i / 64)) (i % 64)) := by
  refine ⟨Nat.lt_of_le_of_lt (cut_le _ _) h, fun b hb => ?_, fun m h1 h2 => by omega⟩
  rw [cut_bit, has_at _ _ _ hb]
  congr 1
  by_cases h : i % 64 ≤ b
  · rw [decide_eq_true h, decide_eq_true (by omega)]
  · rw [decide_eq_false h, decide_eq_false (by omega)]

theorem rest_zero {ws : List Nat} {i j : Nat} (h : Rest ws i j 0) : ∀ m, i ≤ m → m < 64 * (j + 1) → has ws m = false := fun m h1 h2 => by
  by_cases hm : m < 64 * j
  · exact h.none m h1 hm
  · have hb := h.bit (m - 64 * j) (by omega)
    rw [show 64 * j + (m - 64 * j) = m by omega, decide_eq_true h1] at hb
    simpa using hb.symm

theorem rest_next {ws : List Nat} {i j : Nat} (h : Rest ws i j 0) (hij : i < 64 * (j + 1)) (hl : wd ws (j + 1) < 18446744073709551616) : Rest ws i (j + 1) (wd ws (j + 1)) :=
  ⟨hl, fun b hb => by rw [has_at _ _ _ hb, decide_eq_true (by omega)]; rfl, rest_zero h⟩

theorem rest_none {ws : List Nat} {i : Nat} (h : Rest ws i 31 0) : nxt ws i = -1 := nxt_none ws i (fun k h1 h2 => rest_zero h k h1 (by omega))

theorem rest_found {ws : List Nat} {i j x : Nat} (h : Rest ws i j x) (hx : x ≠ 0) (hj : j < 32) : nxt ws i = ((64 * j + low x : Nat) : Int) ∧ low x < 64 := by
  obtain ⟨h1, h2, h3⟩ := low_bit x hx h.lt
  have hb := h.bit (low x) h1
  rw [h2] at hb
  have hb' : decide (i ≤ 64 * j + low x) = true ∧ has ws (64 * j + low x) = true := by simpa using hb.symm
  have hi : i ≤ 64 * j + low x := by simpa using hb'.1
  refine ⟨nxt_some ws i _ hi (by omega) hb'.2 (fun k h4 h5 => ?_), h1⟩
  by_cases hk : k < 64 * j
  · exact h.none k h4 hk
  · have hb2 := h.bit (k - 64 * j) (by omega)
    rw [h3 _ (by omega), show 64 * j + (k - 64 * j) = k by omega, decide_eq_true h4] at hb2
    simpa using hb2.symm

def nextI (n : Nat) (ws : List Nat) (k : Int) : Int := if (n : Int) ≤ k then -1 else nxt ws k.toNat

set_option maxHeartbeats 3200000 in
theorem next_off (B g n : Nat) (ws : List Nat) (k : Int) (hk : (n : Int) ≤ k) (w : World) (hs : S w B g n ws) :
    Calls Tryd.prog 54 #[.pointer (some ⟨g, 0, none⟩), .int .i64 k] w (Quiet w (.int .i64 (-1))) := by
  obtain ⟨c0, c1⟩ := hs.cells
  clear hs
  go_enter Tryd.func54, Tryd.ntmps54
  go_wp2
  go_ret
  exact ⟨rfl, 0, rfl⟩

theorem cut_val (x s : Nat) (hx : x < 18446744073709551616) : IntKind.u64.wrap ((x : Int) / 2 ^ s * 2 ^ s) = (cutLow x s : Int) := by
  have h := cut_le x s
  unfold cutLow at h ⊢
  rw [show (x : Int) / 2 ^ s * 2 ^ s = ((x / 2 ^ s * 2 ^ s : Nat) : Int) by simp, IntKind.wrap_u64]
  generalize x / 2 ^ s * 2 ^ s = y at h ⊢
  omega

set_option maxHeartbeats 3200000 in
theorem next_pos (B g n : Nat) (ws : List Nat) (i : Nat) (h0 : 0 < i) (hin : i < n) (w : World) (hs : S w B g n ws) (ht : Tab w) :
    Calls Tryd.prog 54 #[.pointer (some ⟨g, 0, none⟩), .int .i64 i] w (Quiet w (.int .i64 (nxt ws i))) := by
  obtain ⟨c0, c1⟩ := hs.cells
  have htop := hs.top
  obtain ⟨x0, _⟩ := hs.word (i / 64) (by omega)
  have HS := Lib.hid hs
  have HT := Lib.hid ht
  have HV := Lib.hid (cut_val (wd ws (i / 64)) (i % 64) (hs.ok.lt _))
  have HR0 := Lib.hid (rest_start ws i (hs.ok.lt _))
  have i1 : (0 : Int) < (i : Int) := by omega
  have i2 : (i : Int) < (n : Int) := by omega
  have i3 : ¬ (i : Int) < 0 := by omega
  clear hs ht
  go_enter Tryd.func54, Tryd.ntmps54
  go_wp2
  go_loopw [5, 6] (fun r v wr => ∃ j x : Nat, j < 32 ∧ v = .int .i64 j ∧ r = .int .u64 x ∧ Hid (∃ q, wr = w.drewN q) ∧ Hid (Rest ws i j x ∧ i < 64 * (j + 1))) (fun _ i _ => 32 - (intOf i).toNat)
  case atStart => exact ⟨i / 64, cutLow (wd ws (i / 64)) (i % 64), by omega, by first | rfl | (simp; done) | go_num, by first | (rw [HV.out]) | (congr 1; exact HV.out) | rfl, Lib.hid ⟨0, rfl⟩, Lib.hid ⟨HR0.out, by omega⟩⟩
  case round =>
    obtain ⟨j, x, hj, rfl, rfl, HQ, HR⟩ := hrel
    have i1 : (0 : Int) ≤ (j : Int) := Int.natCast_nonneg _
    have i2 : (j : Int) < 32 := by omega
    by_cases hx : x = 0
    · subst hx
      by_cases h31 : j = 31
      · subst h31
        have HE := Lib.hid (rest_none HR.out.1)
        go_wp2
        go_ret
        obtain ⟨q, rfl⟩ := HQ.out
        exact ⟨by show Ending.returned (.int .i64 (-1)) = _; rw [HE.out], q, rfl⟩
      · have i3 : (j : Int) + 1 < 32 := by omega
        have i4 : (0 : Int) ≤ (j : Int) + 1 := by omega
        have e1 : ((j : Int) + 1 == 32) = false := by simp; omega
        have e2 : ((j : Int) + 1).toNat = j + 1 := by omega
        have F := HS.out
        obtain ⟨q, rfl⟩ := HQ.out
        have x1 := (F.no (drewN_fr (Fr.refl No w) (n := q) rfl)).word (j + 1) (by omega)
        have x2 := x1.1
        clear x1 F
        have HJ := Lib.hid (rest_next HR.out.1 (by have := HR.out.2; omega) (HS.out.ok.lt (j + 1)))
        have HI := Lib.hid (show i < 64 * (j + 1 + 1) by have := HR.out.2; omega)
        have HLT := Lib.hid (show j + 1 < 32 by omega)
        clear h31 hj HR
        go_wp2
        go_roundw
        case rel => exact ⟨j + 1, wd ws (j + 1), HLT.out, by go_num, rfl, Lib.hid ⟨_, rfl⟩, Lib.hid ⟨HJ.out, HI.out⟩⟩
        case measure => have := HLT.out; simp [intOf]; omega
    · have HE := Lib.hid (rest_found HR.out.1 hx hj)
      have HX := Lib.hid (And.intro HR.out.1.lt hx)
      have e1 : ((x : Int) == 0) = false := by simp; omega
      have i5 : (0 : Int) ≤ (low x : Int) := Int.natCast_nonneg _
      have i6 : (low x : Int) < 64 := by have := HE.out.2; omega
      obtain ⟨q, rfl⟩ := HQ.out
      clear hx HR
      go_wp2_with fail
      with_reducible refine (tz_any x HX.out.1 HX.out.2 _ (HT.out.drewN _)).mono ?_
      rintro e w2 ⟨rfl, q2, rfl⟩
      go_wp2_with fail
      go_ret
      exact ⟨by show Ending.returned (.int .i64 _) = _; rw [HE.out.1, show (j : Int) * 64 + (low x : Int) = ((64 * j + low x : Nat) : Int) by omega], _, rfl⟩

set_option maxHeartbeats 3200000 in
theorem next_neg (B g n : Nat) (ws : List Nat) (k : Int) (h0 : k < 0) (w : World) (hs : S w B g n ws) (ht : Tab w) :
    Calls Tryd.prog 54 #[.pointer (some ⟨g, 0, none⟩), .int .i64 k] w (Quiet w (.int .i64 (nxt ws 0))) := by
  obtain ⟨c0, c1⟩ := hs.cells
  have htop := hs.top
  obtain ⟨x0, _⟩ := hs.word 0 (by omega)
  simp only [Nat.add_zero] at x0
  have HS := Lib.hid hs
  have HT := Lib.hid ht
  have HV := Lib.hid (wrap_nat (wd ws 0) (hs.ok.lt _))
  have HR0 := Lib.hid (rest_start ws 0 (hs.ok.lt _))
  have i2 : k < (n : Int) := by omega
  clear hs ht
  go_enter Tryd.func54, Tryd.ntmps54
  go_wp2
  go_loopw [5, 6] (fun r v wr => ∃ j x : Nat, j < 32 ∧ v = .int .i64 j ∧ r = .int .u64 x ∧ Hid (∃ q, wr = w.drewN q) ∧ Hid (Rest ws 0 j x ∧ 0 < 64 * (j + 1))) (fun _ i _ => 32 - (intOf i).toNat)
  case atStart => exact ⟨0, cutLow (wd ws 0) 0, by omega, by first | rfl | (simp; done) | go_num, by first | (simp only [cutLow, Nat.pow_zero, Nat.div_one, Nat.mul_one]; rw [HV.out]) | (simp [cutLow, HV.out]; done) | (simp [cutLow]; exact HV.out), Lib.hid ⟨0, rfl⟩, Lib.hid ⟨HR0.out, by omega⟩⟩
  case round =>
    obtain ⟨j, x, hj, rfl, rfl, HQ, HR⟩ := hrel
    have i1 : (0 : Int) ≤ (j : Int) := Int.natCast_nonneg _
    have i2 : (j : Int) < 32 := by omega
    by_cases hx : x = 0
    · subst hx
      by_cases h31 : j = 31
      · subst h31
        have HE := Lib.hid (rest_none HR.out.1)
        go_wp2
        go_ret
        obtain ⟨q, rfl⟩ := HQ.out
        exact ⟨by show Ending.returned (.int .i64 (-1)) = _; rw [HE.out], q, rfl⟩
      · have i3 : (j : Int) + 1 < 32 := by omega
        have i4 : (0 : Int) ≤ (j : Int) + 1 := by omega
        have e1 : ((j : Int) + 1 == 32) = false := by simp; omega
        have e2 : ((j : Int) + 1).toNat = j + 1 := by omega
        have F := HS.out
        obtain ⟨q, rfl⟩ := HQ.out
        have x1 := (F.no (drewN_fr (Fr.refl No w) (n := q) rfl)).word (j + 1) (by omega)
        have x2 := x1.1
        clear x1 F
        have HJ := Lib.hid (rest_next HR.out.1 (by have := HR.out.2; omega) (HS.out.ok.lt (j + 1)))
        have HI := Lib.hid (show 0 < 64 * (j + 1 + 1) by have := HR.out.2; omega)
        have HLT := Lib.hid (show j + 1 < 32 by omega)
        clear h31 hj HR
        go_wp2
        go_roundw
        case rel => exact ⟨j + 1, wd ws (j + 1), HLT.out, by go_num, rfl, Lib.hid ⟨_, rfl⟩, Lib.hid ⟨HJ.out, HI.out⟩⟩
        case measure => have := HLT.out; simp [intOf]; omega
    · have HE := Lib.hid (rest_found HR.out.1 hx hj)
      have HX := Lib.hid (And.intro HR.out.1.lt hx)
      have e1 : ((x : Int) == 0) = false := by simp; omega
      have i5 : (0 : Int) ≤ (low x : Int) := Int.natCast_nonneg _
      have i6 : (low x : Int) < 64 := by have := HE.out.2; omega
      obtain ⟨q, rfl⟩ := HQ.out
      clear hx HR
      go_wp2_with fail
      with_reducible refine (tz_any x HX.out.1 HX.out.2 _ (HT.out.drewN _)).mono ?_
      rintro e w2 ⟨rfl, q2, rfl⟩
      go_wp2_with fail
      go_ret
      exact ⟨by show Ending.returned (.int .i64 _) = _; rw [HE.out.1, show (j : Int) * 64 + (low x : Int) = ((64 * j + low x : Nat) : Int) by omega], _, rfl⟩

set_option maxHeartbeats 3200000 in
theorem next_lit (B g n : Nat) (ws : List Nat) (hin : 0 < n) (w : World) (hs : S w B g n ws) (ht : Tab w) :
    Calls Tryd.prog 54 #[.pointer (some ⟨g, 0, none⟩), .int .i64 0] w (Quiet w (.int .i64 (nxt ws 0))) := by
  obtain ⟨c0, c1⟩ := hs.cells
  have htop := hs.top
  obtain ⟨x0, _⟩ := hs.word 0 (by omega)
  simp only [Nat.add_zero] at x0
  have HS := Lib.hid hs
  have HT := Lib.hid ht
  have HV := Lib.hid (wrap_nat (wd ws 0) (hs.ok.lt _))
  have HR0 := Lib.hid (rest_start ws 0 (hs.ok.lt _))
  have i2 : (0 : Int) < (n : Int) := by omega
  clear hs ht
  go_enter Tryd.func54, Tryd.ntmps54
  go_wp2
  go_loopw [5, 6] (fun r v wr => ∃ j x : Nat, j < 32 ∧ v = .int .i64 j ∧ r = .int .u64 x ∧ Hid (∃ q, wr = w.drewN q) ∧ Hid (Rest ws 0 j x ∧ 0 < 64 * (j + 1))) (fun _ i _ => 32 - (intOf i).toNat)
  case atStart => exact ⟨0, cutLow (wd ws 0) 0, by omega, by first | rfl | (simp; done) | go_num, by first | (simp only [cutLow, Nat.pow_zero, Nat.div_one, Nat.mul_one]; rw [HV.out]) | (simp [cutLow, HV.out]; done) | (simp [cutLow]; exact HV.out), Lib.hid ⟨0, rfl⟩, Lib.hid ⟨HR0.out, by omega⟩⟩
  case round =>
    obtain ⟨j, x, hj, rfl, rfl, HQ, HR⟩ := hrel
    have i1 : (0 : Int) ≤ (j : Int) := Int.natCast_nonneg _
    have i2 : (j : Int) < 32 := by omega
    by_cases hx : x = 0
    · subst hx
      by_cases h31 : j = 31
      · subst h31
        have HE := Lib.hid (rest_none HR.out.1)
        go_wp2
        go_ret
        obtain ⟨q, rfl⟩ := HQ.out
        exact ⟨by show Ending.returned (.int .i64 (-1)) = _; rw [HE.out], q, rfl⟩
      · have i3 : (j : Int) + 1 < 32 := by omega
        have i4 : (0 : Int) ≤ (j : Int) + 1 := by omega
        have e1 : ((j : Int) + 1 == 32) = false := by simp; omega
        have e2 : ((j : Int) + 1).toNat = j + 1 := by omega
        have F := HS.out
        obtain ⟨q, rfl⟩ := HQ.out
        have x1 := (F.no (drewN_fr (Fr.refl No w) (n := q) rfl)).word (j + 1) (by omega)
        have x2 := x1.1
        clear x1 F
        have HJ := Lib.hid (rest_next HR.out.1 (by have := HR.out.2; omega) (HS.out.ok.lt (j + 1)))
        have HI := Lib.hid (show 0 < 64 * (j + 1 + 1) by have := HR.out.2; omega)
        have HLT := Lib.hid (show j + 1 < 32 by omega)
        clear h31 hj HR
        go_wp2
        go_roundw
        case rel => exact ⟨j + 1, wd ws (j + 1), HLT.out, by go_num, rfl, Lib.hid ⟨_, rfl⟩, Lib.hid ⟨HJ.out, HI.out⟩⟩
        case measure => have := HLT.out; simp [intOf]; omega
    · have HE := Lib.hid (rest_found HR.out.1 hx hj)
      have HX := Lib.hid (And.intro HR.out.1.lt hx)
      have e1 : ((x : Int) == 0) = false := by simp; omega
      have i5 : (0 : Int) ≤ (low x : Int) := Int.natCast_nonneg _
      have i6 : (low x : Int) < 64 := by have := HE.out.2; omega
      obtain ⟨q, rfl⟩ := HQ.out
      clear hx HR
      go_wp2_with fail
      with_reducible refine (tz_any x HX.out.1 HX.out.2 _ (HT.out.drewN _)).mono ?_
      rintro e w2 ⟨rfl, q2, rfl⟩
      go_wp2_with fail
      go_ret
      exact ⟨by show Ending.returned (.int .i64 _) = _; rw [HE.out.1, show (j : Int) * 64 + (low x : Int) = ((64 * j + low x : Nat) : Int) by omega], _, rfl⟩

theorem next_any (B g n : Nat) (ws : List Nat) (k : Int) (w : World) (hs : S w B g n ws) (ht : Tab w) :
    Calls Tryd.prog 54 #[.pointer (some ⟨g, 0, none⟩), .int .i64 k] w (Quiet w (.int .i64 (nextI n ws k))) := by
  unfold nextI
  by_cases h : (n : Int) ≤ k
  · rw [if_pos h]; exact next_off B g n ws k h w hs
  · rw [if_neg h]
    by_cases h0 : k ≤ 0
    · rw [show k.toNat = 0 by omega]
      by_cases h1 : k < 0
      · exact next_neg B g n ws k h1 w hs ht
      · obtain rfl : k = 0 := by omega
        exact next_lit B g n ws (by omega) w hs ht
    · obtain ⟨i, rfl⟩ := Int.eq_ofNat_of_zero_le (show 0 ≤ k by omega)
      exact next_pos B g n ws i (by omega) (by omega) w hs ht

end Go.Proofs.YtoipjmhfeggdeaaDoor.Bitmap
