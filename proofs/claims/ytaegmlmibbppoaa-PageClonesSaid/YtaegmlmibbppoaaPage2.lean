/- Proved: what Size, First, Take, Free, All, Clone, New of package page, and the same of lists of kinds, do and answer. -/
import Derived.Test.YtaegmlmibbppoaaPage
import Derived.Deep.OwnRows
namespace Go.Proofs.Ytaegmlmibbppoaa.Page
open Go.RowKit Go.Proofs.Ytaegmlmibbppoaa.H Go.Proofs.Ytaegmlmibbppoaa.Nums Go.Proofs.Ytaegmlmibbppoaa.PagePure
set_option linter.unusedVariables false

theorem size_5 (l : List Int) (p : Int) (h : kindL l p = 5) : ∃ k : Nat, p = (k : Int) ∧ k < l.length ∧ sizeL l p = 1 + more (l.drop (k + 1)) := by
  have hp : ¬ (p < 0 ∨ (l.length : Int) ≤ p) := fun h2 => by rw [kindL_past l p h2] at h; omega
  refine ⟨p.toNat, by omega, by omega, ?_⟩
  unfold sizeL
  rw [h, if_neg (by decide), if_pos rfl]
theorem kind_lt (l : List Int) (p : Int) (h : kindL l p ≠ -1) : 0 ≤ p ∧ p < (l.length : Int) := by
  have hp : ¬ (p < 0 ∨ (l.length : Int) ≤ p) := fun h2 => h (kindL_past l p h2)
  omega

set_option maxRecDepth 100000 in
set_option maxHeartbeats 3200000 in
theorem size_any (B g : Nat) (v : Value) (l : List Int) (p : Int) (w : World) (hs : T w B g v l) :
    Calls Try.prog 16 #[.pointer (some ⟨g, 0, none⟩), .int .i64 p] w (Same w (.int .i64 (sizeL l p))) := by
  have HS := Lib.hid hs
  have HL := Lib.hid hs.len
  obtain ⟨kv, hkv⟩ : ∃ kv, kindL l p = kv := ⟨_, rfl⟩
  obtain ⟨sz, hsz⟩ : ∃ sz, clsz kv = sz := ⟨_, rfl⟩
  have HKV := Lib.hid hkv
  have HSZ := Lib.hid hsz
  have hnn : 0 ≤ sz := by rw [← hsz]; exact (clsz_nn kv).1
  have hcase : (0 < sz ∧ Hid (sizeL l p = 1)) ∨ (sz ≤ 0 ∧ kv = 5) ∨ (sz ≤ 0 ∧ kv ≠ 5 ∧ Hid (sizeL l p = 0)) := by
    by_cases h : sz = 0
    · by_cases h5 : kv = 5
      · exact .inr (.inl ⟨by omega, h5⟩)
      · exact .inr (.inr ⟨by omega, h5, Lib.hid (by unfold sizeL; rw [hkv, hsz, if_neg (by omega), if_neg h5])⟩)
    · exact .inl ⟨by omega, Lib.hid (by unfold sizeL; rw [hkv, hsz, if_pos h])⟩
  clear hs hkv hsz
  go_enter Try.func16, Try.ntmps16
  go_wp2_with fail
  with_reducible refine (kind_any B g v l (p) kv HKV.out _ (HS.out.no (Fr.of_below (Below.refl _ _) No))).mono ?_
  rintro e1 w1 ⟨rfl, n1, hw1⟩
  have F1 := Lib.hid (no_below (drewN_fr (Fr.refl No w) hw1))
  clear hw1
  go_wp2_with fail
  with_reducible refine (cls_any kv sz HSZ.out _).mono ?_
  rintro e2 w2 ⟨rfl, n2, hw2⟩
  have F2 := Lib.hid (F1.out.trans ((no_below (drewN_fr (Fr.refl No _) hw2)).mono F1.out.size))
  clear hw2 F1
  rcases hcase with ⟨h1, HE⟩ | ⟨h1, rfl⟩ | ⟨h1, h2, HE⟩
  · go_wp2_with fail
    go_ret
    exact ⟨by rw [HE.out]; rfl, F2.out⟩
  · obtain ⟨k, hk, hkl, hse⟩ := size_5 l p HKV.out
    subst hk
    have HSE := Lib.hid hse
    have HKL := Lib.hid hkl
    have hkl64 : k < 64 := by have := HL.out; omega
    have HLT := Lib.hid (kind_lt l)
    clear hse
    go_wp2_with fail
    go_loopw [6] (fun i wr => ∃ j : Nat, j ≤ 64 ∧ i = .int .i64 ((j : Int) + 1) ∧ Hid (j + more (l.drop (k + 1 + j)) = more (l.drop (k + 1))) ∧ Hid (Below w.heap.size w wr)) (fun i _ => 66 - (intOf i).toNat)
    case atStart => exact ⟨0, by omega, rfl, Lib.hid (by rw [Nat.zero_add, Nat.add_zero]), F2⟩
    case round =>
      obtain ⟨j, hj, rfl, HM, HW⟩ := hrel
      obtain ⟨z, hz⟩ : ∃ z, kindL l ((k : Int) + ((j : Int) + 1)) = z := ⟨_, rfl⟩
      have hz2 : kindL l (((k + 1 + j : Nat)) : Int) = z := by rw [← hz]; congr 1; omega
      have HZ := Lib.hid hz
      have i1 : (0 : Int) ≤ (j : Int) := Int.natCast_nonneg _
      have i2 : (0 : Int) ≤ (k : Int) := Int.natCast_nonneg _
      by_cases h6 : z = 6
      · subst h6
        have hj2 : j < 63 := by
          have h3 := (HLT.out _ (by rw [hz]; decide)).2
          have := HL.out
          omega
        have HM2 : Hid ((j + 1) + more (l.drop (k + 1 + (j + 1))) = more (l.drop (k + 1))) := Lib.hid (by rw [← HM.out]; exact (more_step l (k + 1) j hz2).symm)
        clear hz hz2
        go_wp2_with fail
        with_reducible refine (kind_any B g v l ((k : Int) + ((j : Int) + 1)) 6 HZ.out _ (HS.out.no (Fr.of_below HW.out No))).mono ?_
        rintro e3 w3 ⟨rfl, n3, hw3⟩
        have HW3 := Lib.hid (HW.out.trans ((no_below (drewN_fr (Fr.refl No _) hw3)).mono HW.out.size))
        clear hw3
        go_wp2_with fail
        go_roundw
        case rel => exact ⟨j + 1, by omega, by go_num, HM2, HW3⟩
        case measure => simp [intOf]; omega
      · have g1 : (z == 6) = false := by rw [beq_eq_false_iff_ne]; exact h6
        have HE : Hid (sizeL l (k : Int) = j + 1) := Lib.hid (by rw [HSE.out, ← HM.out, more_none l (k + 1) j (by rw [hz2]; exact h6)]; omega)
        clear hz hz2 h6
        go_wp2_with fail
        with_reducible refine (kind_any B g v l ((k : Int) + ((j : Int) + 1)) z HZ.out _ (HS.out.no (Fr.of_below HW.out No))).mono ?_
        rintro e3 w3 ⟨rfl, n3, hw3⟩
        have HW3 := Lib.hid (HW.out.trans ((no_below (drewN_fr (Fr.refl No _) hw3)).mono HW.out.size))
        clear hw3
        go_wp2_with fail
        go_ret
        exact ⟨by rw [HE.out]; rfl, HW3.out⟩
  · have g1 : (kv == 5) = false := by rw [beq_eq_false_iff_ne]; exact h2
    clear h2
    go_wp2_with fail
    go_ret
    exact ⟨by rw [HE.out]; rfl, F2.out⟩

set_option maxRecDepth 100000 in
set_option maxHeartbeats 3200000 in
theorem rsize_any (A : Option Addr) (n c : Nat) (l : List Int) (hn : n = l.length) (p : Int) (w : World) (hs : Rd w (.slice A n c) n 1 (ints l)) (hlen : l.length ≤ 64) :
    Calls Try.prog 34 #[.slice A n c, .int .i64 p] w (Same w (.int .i64 (sizeL l p))) := by
  have HS := Lib.hid hs
  have HL := Lib.hid hlen
  have HNN := Lib.hid hn
  obtain ⟨kv, hkv⟩ : ∃ kv, kindL l p = kv := ⟨_, rfl⟩
  obtain ⟨sz, hsz⟩ : ∃ sz, clsz kv = sz := ⟨_, rfl⟩
  have HKV := Lib.hid hkv
  have HSZ := Lib.hid hsz
  have hnn : 0 ≤ sz := by rw [← hsz]; exact (clsz_nn kv).1
  have hcase : (0 < sz ∧ Hid (sizeL l p = 1)) ∨ (sz ≤ 0 ∧ kv = 5) ∨ (sz ≤ 0 ∧ kv ≠ 5 ∧ Hid (sizeL l p = 0)) := by
    by_cases h : sz = 0
    · by_cases h5 : kv = 5
      · exact .inr (.inl ⟨by omega, h5⟩)
      · exact .inr (.inr ⟨by omega, h5, Lib.hid (by unfold sizeL; rw [hkv, hsz, if_neg (by omega), if_neg h5])⟩)
    · exact .inl ⟨by omega, Lib.hid (by unfold sizeL; rw [hkv, hsz, if_pos h])⟩
  clear hs hkv hsz hn hlen
  go_enter Try.func34, Try.ntmps34
  go_wp2_with fail
  with_reducible refine (rkind_any A n c l HNN.out (p) kv HKV.out _ (HS.out.below (Below.refl _ _)) HL.out).mono ?_
  rintro e1 w1 ⟨rfl, n1, hw1⟩
  have F1 := Lib.hid (no_below (drewN_fr (Fr.refl No w) hw1))
  clear hw1
  go_wp2_with fail
  with_reducible refine (rcls_any kv sz HSZ.out _).mono ?_
  rintro e2 w2 ⟨rfl, hw2⟩
  have F2 := Lib.hid (F1.out.trans (hw2.mono F1.out.size))
  clear hw2 F1
  rcases hcase with ⟨h1, HE⟩ | ⟨h1, rfl⟩ | ⟨h1, h2, HE⟩
  · go_wp2_with fail
    go_ret
    exact ⟨by rw [HE.out]; rfl, F2.out⟩
  · obtain ⟨k, hk, hkl, hse⟩ := size_5 l p HKV.out
    subst hk
    have HSE := Lib.hid hse
    have HKL := Lib.hid hkl
    have hkl64 : k < 64 := by have := HL.out; omega
    have HLT := Lib.hid (kind_lt l)
    clear hse
    go_wp2_with fail
    go_loopw [6] (fun i wr => ∃ j : Nat, j ≤ 64 ∧ i = .int .i64 ((j : Int) + 1) ∧ Hid (j + more (l.drop (k + 1 + j)) = more (l.drop (k + 1))) ∧ Hid (Below w.heap.size w wr)) (fun i _ => 66 - (intOf i).toNat)
    case atStart => exact ⟨0, by omega, rfl, Lib.hid (by rw [Nat.zero_add, Nat.add_zero]), F2⟩
    case round =>
      obtain ⟨j, hj, rfl, HM, HW⟩ := hrel
      obtain ⟨z, hz⟩ : ∃ z, kindL l ((k : Int) + ((j : Int) + 1)) = z := ⟨_, rfl⟩
      have hz2 : kindL l (((k + 1 + j : Nat)) : Int) = z := by rw [← hz]; congr 1; omega
      have HZ := Lib.hid hz
      have i1 : (0 : Int) ≤ (j : Int) := Int.natCast_nonneg _
      have i2 : (0 : Int) ≤ (k : Int) := Int.natCast_nonneg _
      by_cases h6 : z = 6
      · subst h6
        have hj2 : j < 63 := by
          have h3 := (HLT.out _ (by rw [hz]; decide)).2
          have := HL.out
          omega
        have HM2 : Hid ((j + 1) + more (l.drop (k + 1 + (j + 1))) = more (l.drop (k + 1))) := Lib.hid (by rw [← HM.out]; exact (more_step l (k + 1) j hz2).symm)
        clear hz hz2
        go_wp2_with fail
        with_reducible refine (rkind_any A n c l HNN.out ((k : Int) + ((j : Int) + 1)) 6 HZ.out _ (HS.out.below HW.out) HL.out).mono ?_
        rintro e3 w3 ⟨rfl, n3, hw3⟩
        have HW3 := Lib.hid (HW.out.trans ((no_below (drewN_fr (Fr.refl No _) hw3)).mono HW.out.size))
        clear hw3
        go_wp2_with fail
        go_roundw
        case rel => exact ⟨j + 1, by omega, by go_num, HM2, HW3⟩
        case measure => simp [intOf]; omega
      · have g1 : (z == 6) = false := by rw [beq_eq_false_iff_ne]; exact h6
        have HE : Hid (sizeL l (k : Int) = j + 1) := Lib.hid (by rw [HSE.out, ← HM.out, more_none l (k + 1) j (by rw [hz2]; exact h6)]; omega)
        clear hz hz2 h6
        go_wp2_with fail
        with_reducible refine (rkind_any A n c l HNN.out ((k : Int) + ((j : Int) + 1)) z HZ.out _ (HS.out.below HW.out) HL.out).mono ?_
        rintro e3 w3 ⟨rfl, n3, hw3⟩
        have HW3 := Lib.hid (HW.out.trans ((no_below (drewN_fr (Fr.refl No _) hw3)).mono HW.out.size))
        clear hw3
        go_wp2_with fail
        go_ret
        exact ⟨by rw [HE.out]; rfl, HW3.out⟩
  · have g1 : (kv == 5) = false := by rw [beq_eq_false_iff_ne]; exact h2
    clear h2
    go_wp2_with fail
    go_ret
    exact ⟨by rw [HE.out]; rfl, F2.out⟩

set_option maxRecDepth 100000 in
set_option maxHeartbeats 3200000 in
theorem first_any (B g : Nat) (v : Value) (l : List Int) (p : Int) (w : World) (hs : T w B g v l) :
    Calls Try.prog 15 #[.pointer (some ⟨g, 0, none⟩), .int .i64 p] w (Same w (.int .i64 (firstL l p))) := by
  have HS := Lib.hid hs
  have HL := Lib.hid hs.len
  have HLT := Lib.hid (kind_lt l)
  clear hs
  go_enter Try.func15, Try.ntmps15
  go_wp2_with fail
  go_loopw [1] (fun i wr => ∃ p' : Int, i = .int .i64 p' ∧ Hid (backI l p' = backI l p) ∧ Hid (Below w.heap.size w wr)) (fun i _ => (intOf i + 2).toNat)
  case atStart => exact ⟨p, rfl, Lib.hid rfl, Lib.hid (Below.refl _ _)⟩
  case round =>
    obtain ⟨p', rfl, HB, HW⟩ := hrel
    obtain ⟨z, hz⟩ : ∃ z, kindL l p' = z := ⟨_, rfl⟩
    have HZ := Lib.hid hz
    by_cases h6 : z = 6
    · subst h6
      have hj := HLT.out _ (show kindL l p' ≠ -1 by rw [hz]; decide)
      have hll := HL.out
      have HB2 : Hid (backI l (p' - 1) = backI l p) := Lib.hid (by
        rw [← HB.out]
        obtain ⟨k, hk⟩ := Int.eq_ofNat_of_zero_le hj.1
        subst hk
        exact (backL_succ l k hz).symm)
      obtain ⟨hj1, hj2⟩ := hj
      clear hz
      go_wp2_with fail
      with_reducible refine (kind_any B g v l p' 6 HZ.out _ (HS.out.no (Fr.of_below HW.out No))).mono ?_
      rintro e3 w3 ⟨rfl, n3, hw3⟩
      have HW3 := Lib.hid (HW.out.trans ((no_below (drewN_fr (Fr.refl No _) hw3)).mono HW.out.size))
      clear hw3
      go_wp2_with fail
      go_roundw
      case rel => exact ⟨p' - 1, rfl, HB2, HW3⟩
      case measure => simp [intOf]; omega
    · have g1 : (z == 6) = false := by rw [beq_eq_false_iff_ne]; exact h6
      have HE : Hid (backI l p = p') := Lib.hid (by rw [← HB.out]; unfold backI; rw [if_neg (by rw [hz]; exact h6)])
      clear hz h6
      go_wp2_with fail
      with_reducible refine (kind_any B g v l p' z HZ.out _ (HS.out.no (Fr.of_below HW.out No))).mono ?_
      rintro e3 w3 ⟨rfl, n3, hw3⟩
      have HW3 := Lib.hid (HW.out.trans ((no_below (drewN_fr (Fr.refl No _) hw3)).mono HW.out.size))
      clear hw3
      go_wp2_with fail
      with_reducible refine (size_any B g v l p' _ (HS.out.no (Fr.of_below HW3.out No))).mono ?_
      rintro e4 w4 ⟨rfl, hw4⟩
      have HW4 := Lib.hid (HW3.out.trans (hw4.mono HW3.out.size))
      clear hw4
      obtain ⟨s, hs⟩ : ∃ s, s = sizeL l p' := ⟨_, rfl⟩
      rw [← hs]
      have HSS := Lib.hid hs
      clear hs
      by_cases h0 : s = 0
      · have HF : Hid (firstL l p = -1) := Lib.hid (by unfold firstL; rw [HE.out, ← HSS.out, if_pos h0])
        have g2 : ((s : Int) == 0) = true := by simp; exact h0
        clear h0
        go_wp2_with fail
        go_ret
        exact ⟨by rw [HF.out]; rfl, HW4.out⟩
      · have HF : Hid (firstL l p = p') := Lib.hid (by unfold firstL; rw [HE.out, ← HSS.out, if_neg h0])
        have g2 : ((s : Int) == 0) = false := by simp; exact h0
        clear h0
        go_wp2_with fail
        go_ret
        exact ⟨by rw [HF.out]; rfl, HW4.out⟩

set_option maxRecDepth 100000 in
set_option maxHeartbeats 3200000 in
theorem rfirst_any (A : Option Addr) (n c : Nat) (l : List Int) (hn : n = l.length) (p : Int) (w : World) (hs : Rd w (.slice A n c) n 1 (ints l)) (hlen : l.length ≤ 64) :
    Calls Try.prog 36 #[.slice A n c, .int .i64 p] w (Same w (.int .i64 (firstL l p))) := by
  have HS := Lib.hid hs
  have HL := Lib.hid hlen
  have HNN := Lib.hid hn
  have HLT := Lib.hid (kind_lt l)
  clear hs hn hlen
  go_enter Try.func36, Try.ntmps36
  go_wp2_with fail
  go_loopw [1] (fun i wr => ∃ p' : Int, i = .int .i64 p' ∧ Hid (backI l p' = backI l p) ∧ Hid (Below w.heap.size w wr)) (fun i _ => (intOf i + 2).toNat)
  case atStart => exact ⟨p, rfl, Lib.hid rfl, Lib.hid (Below.refl _ _)⟩
  case round =>
    obtain ⟨p', rfl, HB, HW⟩ := hrel
    obtain ⟨z, hz⟩ : ∃ z, kindL l p' = z := ⟨_, rfl⟩
    have HZ := Lib.hid hz
    by_cases h6 : z = 6
    · subst h6
      have hj := HLT.out _ (show kindL l p' ≠ -1 by rw [hz]; decide)
      have hll := HL.out
      have HB2 : Hid (backI l (p' - 1) = backI l p) := Lib.hid (by
        rw [← HB.out]
        obtain ⟨k, hk⟩ := Int.eq_ofNat_of_zero_le hj.1
        subst hk
        exact (backL_succ l k hz).symm)
      obtain ⟨hj1, hj2⟩ := hj
      clear hz
      go_wp2_with fail
      with_reducible refine (rkind_any A n c l HNN.out p' 6 HZ.out _ (HS.out.below HW.out) HL.out).mono ?_
      rintro e3 w3 ⟨rfl, n3, hw3⟩
      have HW3 := Lib.hid (HW.out.trans ((no_below (drewN_fr (Fr.refl No _) hw3)).mono HW.out.size))
      clear hw3
      go_wp2_with fail
      go_roundw
      case rel => exact ⟨p' - 1, rfl, HB2, HW3⟩
      case measure => simp [intOf]; omega
    · have g1 : (z == 6) = false := by rw [beq_eq_false_iff_ne]; exact h6
      have HE : Hid (backI l p = p') := Lib.hid (by rw [← HB.out]; unfold backI; rw [if_neg (by rw [hz]; exact h6)])
      clear hz h6
      go_wp2_with fail
      with_reducible refine (rkind_any A n c l HNN.out p' z HZ.out _ (HS.out.below HW.out) HL.out).mono ?_
      rintro e3 w3 ⟨rfl, n3, hw3⟩
      have HW3 := Lib.hid (HW.out.trans ((no_below (drewN_fr (Fr.refl No _) hw3)).mono HW.out.size))
      clear hw3
      go_wp2_with fail
      with_reducible refine (rsize_any A n c l HNN.out p' _ (HS.out.below HW3.out) HL.out).mono ?_
      rintro e4 w4 ⟨rfl, hw4⟩
      have HW4 := Lib.hid (HW3.out.trans (hw4.mono HW3.out.size))
      clear hw4
      obtain ⟨s, hs⟩ : ∃ s, s = sizeL l p' := ⟨_, rfl⟩
      rw [← hs]
      have HSS := Lib.hid hs
      clear hs
      by_cases h0 : s = 0
      · have HF : Hid (firstL l p = -1) := Lib.hid (by unfold firstL; rw [HE.out, ← HSS.out, if_pos h0])
        have g2 : ((s : Int) == 0) = true := by simp; exact h0
        clear h0
        go_wp2_with fail
        go_ret
        exact ⟨by rw [HF.out]; rfl, HW4.out⟩
      · have HF : Hid (firstL l p = p') := Lib.hid (by unfold firstL; rw [HE.out, ← HSS.out, if_neg h0])
        have g2 : ((s : Int) == 0) = false := by simp; exact h0
        clear h0
        go_wp2_with fail
        go_ret
        exact ⟨by rw [HF.out]; rfl, HW4.out⟩

/-! ### Index, Take, Free -/
set_option maxHeartbeats 1600000 in
theorem index0_any (A : Option Addr) (n c : Nat) (xs : List Int) (hn : n = xs.length) (w : World) (hr : Rd w (.slice A n c) n 1 (ints xs)) (hl : xs.length ≤ 1000000) :
    Calls Try.prog 27 #[.slice A n c, .int .i64 0] w (Quiet w (.int .i64 (idx0 xs 0))) := by
  subst hn
  have HR := Lib.hid hr
  clear hr
  go_enter Try.func27, Try.ntmps27
  go_wp2
  go_loopw [8] (fun i wr => ∃ k : Nat, k ≤ xs.length ∧ i = .int .i64 k ∧ wr = w ∧ Hid (idx0 (xs.drop k) k = idx0 xs 0)) (fun i _ => xs.length - (intOf i).toNat)
  case atStart => exact ⟨0, Nat.zero_le _, rfl, rfl, Lib.hid rfl⟩
  case round =>
    obtain ⟨k, hk, rfl, rfl, HQ⟩ := hrel
    by_cases hlt : k < xs.length
    · obtain ⟨ad, rfl, x0a⟩ := rd_at HR.out k hlt
      have hd : xs.drop k = xs[k] :: xs.drop (k + 1) := List.drop_eq_getElem_cons hlt
      obtain ⟨y, hy, x0⟩ : ∃ y, xs[k] = y ∧ wr.cell? (ad.add k) = some (.int .i64 y) := ⟨_, rfl, x0a⟩
      rw [hy] at hd
      have HLT := Lib.hid hlt
      have i1 : (0 : Int) ≤ (k : Int) := Int.natCast_nonneg _
      have i2 : (k : Int) < (xs.length : Int) := by omega
      clear x0a
      by_cases he : y = 0
      · subst he
        have HM : Hid (idx0 xs 0 = (k : Int)) := Lib.hid (by rw [← HQ.out, hd]; simp [idx0])
        clear hd hy hlt
        go_wp2
        go_ret
        exact ⟨by rw [HM.out]; rfl, 0, rfl⟩
      · have HM : Hid (idx0 (xs.drop (k + 1)) (k + 1) = idx0 xs 0) := Lib.hid (by rw [← HQ.out, hd]; simp [idx0, he])
        have g1 : ((0 : Int) == y) = false := by simpa using Ne.symm he
        clear he hd hy hlt
        go_wp2
        go_roundw
        case rel => exact ⟨k + 1, HLT.out, by go_num, trivial, HM⟩
        case measure => have := HLT.out; simp [intOf]; omega
    · obtain rfl : k = xs.length := by omega
      have HM : Hid (idx0 xs 0 = -1) := Lib.hid (by rw [← HQ.out, List.drop_length]; rfl)
      go_wp2
      go_ret
      exact ⟨by rw [HM.out]; rfl, 0, rfl⟩
theorem idx0_cases (xs : List Int) : ∀ a : Nat, idx0 xs a = -1 ∨ ∃ k : Nat, idx0 xs a = ((a + k : Nat) : Int) ∧ k < xs.length ∧ xs[k]? = some 0 := by
  induction xs with
  | nil => intro a; exact .inl rfl
  | cons x r ih =>
    intro a
    unfold idx0
    by_cases hx : x = 0
    · rw [if_pos hx]; exact .inr ⟨0, rfl, by simp, by simp [hx]⟩
    · rw [if_neg hx]
      rcases ih (a + 1) with h | ⟨k, h1, h2, h3⟩
      · exact .inl h
      · exact .inr ⟨k + 1, by rw [h1]; omega, by simp; omega, by simpa using h3⟩

def takeOk (l : List Int) (k : Int) : Bool := !decide (clsz k = 0) && !decide (idx0 l 0 < 0)
def takeP (l : List Int) (k : Int) : Int := if takeOk l k = true then idx0 l 0 else 0
def takeL (l : List Int) (k : Int) : List Int := if takeOk l k = true then fillL l (idx0 l 0).toNat 1 k else l
set_option maxHeartbeats 3200000 in
theorem take_any (B g : Nat) (v : Value) (l : List Int) (k : Int) (w : World) (hs : T w B g v l) :
    Calls Try.prog 11 #[.pointer (some ⟨g, 0, none⟩), .int .i64 k] w (Upd B g v (takeL l k) (.tuple #[.int .i64 (takeP l k), .bool (takeOk l k)]) w) := by
  obtain ⟨A, c, rfl, _⟩ := hs.own.slice
  obtain ⟨c0, c1⟩ := hs.cells
  have HS := Lib.hid hs
  have hl := hs.len
  obtain ⟨n, hn⟩ : ∃ n, n = l.length := ⟨_, rfl⟩
  have HRD : Hid (∀ W, Fr No w W → Rd W (.slice A n c) n 1 (ints l)) := Lib.hid (fun W hW => by rw [hn]; exact (hs.own.fr hW (fun _ _ h => h)).rd)
  have HN := Lib.hid hn
  rw [← hn] at HS hl c1 ⊢
  clear hs hn
  by_cases h0 : clsz k = 0
  · have HZ := Lib.hid h0
    have hE : takeOk l k = false := by unfold takeOk; rw [h0]; rfl
    have HP : Hid (takeP l k = 0 ∧ takeL l k = l) := Lib.hid (by unfold takeP takeL; rw [hE]; exact ⟨rfl, rfl⟩)
    rw [hE, HP.out.1, HP.out.2]
    clear h0 hE HP
    go_enter Try.func11, Try.ntmps11
    go_wp2_with fail
    with_reducible refine (cls_any k 0 HZ.out _).mono ?_
    rintro e1 w1 ⟨rfl, n1, hw1⟩
    have F1 := Lib.hid (drewN_fr (Fr.refl No w) hw1)
    clear hw1
    go_wp2_with fail
    go_ret2
    exact ⟨rfl, HS.out.no F1.out, F1.out.mono (fun _ h => h.elim)⟩
  obtain ⟨sz, hsz⟩ : ∃ sz, clsz k = sz := ⟨_, rfl⟩
  have HZ := Lib.hid hsz
  have g0 : (sz == 0) = false := by rw [beq_eq_false_iff_ne, ← hsz]; exact h0
  have hOK : takeOk l k = !decide (idx0 l 0 < 0) := by unfold takeOk; rw [decide_eq_false h0]; rfl
  rcases idx0_cases l 0 with hi | ⟨j, hi, hj, hj0⟩
  · have hE : takeOk l k = false := by rw [hOK, hi]; rfl
    have HP : Hid (takeP l k = 0 ∧ takeL l k = l) := Lib.hid (by unfold takeP takeL; rw [hE]; exact ⟨rfl, rfl⟩)
    rw [hE, HP.out.1, HP.out.2]
    have HI := Lib.hid hi
    clear h0 hE HP hsz hOK hi
    go_enter Try.func11, Try.ntmps11
    go_wp2_with fail
    with_reducible refine (cls_any k sz HZ.out _).mono ?_
    rintro e1 w1 ⟨rfl, n1, hw1⟩
    have F1 := Lib.hid (drewN_fr (Fr.refl No w) hw1)
    have c1' := (HS.out.no F1.out).cells.2
    clear hw1
    go_wp2_with fail
    with_reducible refine (index0_any A n c l HN.out _ (HRD.out _ (by repeat (first | exact F1.out | apply Fr.drewN | apply Fr.drew))) (by have := HN.out; omega)).mono ?_
    rintro e2 w2 ⟨rfl, n2, hw2⟩
    have F2 := Lib.hid (drewN_fr F1.out hw2)
    clear hw2
    rw [HI.out]
    go_wp2_with fail
    go_ret2
    exact ⟨rfl, HS.out.no F2.out, F2.out.mono (fun _ h => h.elim)⟩
  · rw [Nat.zero_add] at hi
    have hE : takeOk l k = true := by rw [hOK, hi]; simp
    have HP : Hid (takeP l k = (j : Int) ∧ takeL l k = l.set j k) := Lib.hid (by
      unfold takeP takeL
      rw [hE, if_pos rfl, if_pos rfl, hi]
      exact ⟨rfl, fillL_one l j k hj⟩)
    rw [hE, HP.out.1, HP.out.2]
    have HI := Lib.hid hi
    have i1 : (0 : Int) ≤ (j : Int) := Int.natCast_nonneg _
    have i2 : (j : Int) < (n : Int) := by have := HN.out; omega
    have HJ := Lib.hid hj
    clear h0 hE HP hsz hOK hi hj hj0
    go_enter Try.func11, Try.ntmps11
    go_wp2_with fail
    with_reducible refine (cls_any k sz HZ.out _).mono ?_
    rintro e1 w1 ⟨rfl, n1, hw1⟩
    have F1 := Lib.hid (drewN_fr (Fr.refl No w) hw1)
    have c1' := (HS.out.no F1.out).cells.2
    clear hw1
    go_wp2_with fail
    with_reducible refine (index0_any A n c l HN.out _ (HRD.out _ (by repeat (first | exact F1.out | apply Fr.drewN | apply Fr.drew))) (by have := HN.out; omega)).mono ?_
    rintro e2 w2 ⟨rfl, n2, hw2⟩
    have F2 := Lib.hid (drewN_fr F1.out hw2)
    have S2 := Lib.hid (HS.out.no F2.out)
    have c2' := S2.out.cells.2
    clear hw2 c1' c0 c1
    rw [HI.out]
    obtain ⟨d, y, rfl, x0, f0, _⟩ := S2.out.own.cell j HJ.out
    go_wp2_with fail
    go_ret2
    exact ⟨rfl, S2.out.put j k, (F2.out.mono (fun _ h => h.elim)).setCell (p := ⟨d, j, none⟩) (.inl (.inr rfl)) _⟩

def freeL (l : List Int) (p : Int) : List Int := fillL l p.toNat (sizeL l p) 0
set_option maxRecDepth 100000 in
set_option maxHeartbeats 3200000 in
theorem free_any (B g : Nat) (v : Value) (l : List Int) (p : Int) (w : World) (hs : T w B g v l) :
    Calls Try.prog 13 #[.pointer (some ⟨g, 0, none⟩), .int .i64 p] w (Upd B g v (freeL l p) (.int .i64 (sizeL l p)) w) := by
  obtain ⟨A, c, rfl, _⟩ := hs.own.slice
  have HS := Lib.hid hs
  have hl := hs.len
  obtain ⟨n, hn⟩ : ∃ n, n = l.length := ⟨_, rfl⟩
  have HN := Lib.hid hn
  rw [← hn] at HS hl ⊢
  obtain ⟨s, hsz⟩ : ∃ s, s = sizeL l p := ⟨_, rfl⟩
  have HSZ := Lib.hid hsz
  have HP : Hid (s = 0 ∨ ∃ k : Nat, p = (k : Int) ∧ k + s ≤ n) := Lib.hid (by rw [hsz, hn]; exact sizeL_le l p)
  have HF : Hid (freeL l p = fillL l p.toNat s 0) := Lib.hid (by rw [hsz]; rfl)
  rw [← hsz, HF.out]
  have hs64 : s ≤ 64 := by rcases HP.out with h | ⟨k, _, h⟩ <;> omega
  clear hs hn hsz HF
  go_enter Try.func13, Try.ntmps13
  go_wp2_with fail
  with_reducible refine (size_any B g _ l p _ HS.out).mono ?_
  rintro e1 w1 ⟨rfl, hw1⟩
  have F1 := Lib.hid (Fr.of_below hw1 No)
  have S1 := Lib.hid (HS.out.no F1.out)
  clear hw1
  rw [← HSZ.out]
  go_wp2_with fail
  go_loopw [11] (fun i wr => ∃ j : Nat, j ≤ s ∧ i = .int .i64 j ∧ Hid (T wr B g (.slice A n c) (fillL l p.toNat j 0)) ∧ Hid (Fr (Foot g (.slice A n c)) w wr)) (fun i _ => s - (intOf i).toNat)
  case atStart => exact ⟨0, Nat.zero_le _, rfl, Lib.hid (by rw [fillL_zero]; exact S1.out), Lib.hid (F1.out.mono (fun _ h => h.elim))⟩
  case round =>
    obtain ⟨j, hj, rfl, HT, HW⟩ := hrel
    by_cases hlt : j < s
    · obtain ⟨k, hk, hks⟩ : ∃ k : Nat, p = (k : Int) ∧ k + s ≤ n := by
        rcases HP.out with h | h
        · omega
        · exact h
      subst hk
      have HTk : Hid (T wr B g (.slice A n c) (fillL l k j 0)) := Lib.hid HT.out
      have hfl : (fillL l k j 0).length = n := by rw [fillL_length _ _ _ _ (by have := HN.out; omega)]; exact HN.out.symm
      obtain ⟨d, y, rfl, x0, f0, _⟩ := HTk.out.own.cell (k + j) (by rw [hfl]; omega)
      have c1 := HTk.out.cells.2
      have i1 : (0 : Int) ≤ (k : Int) := Int.natCast_nonneg _
      have i2 : (0 : Int) ≤ (j : Int) := Int.natCast_nonneg _
      have i3 : (k : Int) + (j : Int) < (n : Int) := by omega
      have HLT := Lib.hid hlt
      have HST : Hid ((fillL l k j 0).set (k + j) 0 = fillL l k (j + 1) 0) := Lib.hid (fillL_succ l k j 0 (by have := HN.out; omega))
      clear hfl hlt HT
      go_wp2
      go_roundw
      case rel => exact ⟨j + 1, HLT.out, by go_num, Lib.hid (by have h := HTk.out.put (k + j) 0; rw [HST.out] at h; exact h), Lib.hid (HW.out.setCell (p := ⟨d, k + j, none⟩) (.inl (.inr rfl)) _)⟩
      case measure => have := HLT.out; simp [intOf]; omega
    · obtain rfl : j = s := by omega
      clear hj hlt
      go_wp2
      go_ret
      exact ⟨rfl, HT.out, HW.out⟩

/-! ### All, New, Clone -/
set_option maxHeartbeats 1600000 in
theorem all_any (B g : Nat) (v : Value) (l : List Int) (w : World) (hs : T w B g v l) :
    Calls Try.prog 14 #[.pointer (some ⟨g, 0, none⟩)] w (CopyPost l w) := by
  have c0 : w.cell? ⟨g, 1, none⟩ = some v := cell_of hs.blk 1
  have hl := hs.len
  have HR := Lib.hid hs.own.rd
  clear hs
  go_enter Try.func14, Try.ntmps14
  go_wp2_with (go_at_call 29; refine (Nums.clone_any v l _ HR.out (by omega)).mono ?_; rintro e w' ⟨v', rfl, hown, hbel⟩)
  go_ret
  exact ⟨v', rfl, hown, hbel⟩
def NewPost (l : List Int) (w : World) (e : Ending) (w' : World) : Prop :=
  ∃ g v, e = .returned (.pointer (some ⟨g, 0, none⟩)) ∧ T w' w.heap.size g v l ∧ Below w.heap.size w w'
theorem clamp_any (n : Int) (hi : Int) (w : World) (h : 0 ≤ hi) :
    Calls Try.prog 25 #[.int .i64 n, .int .i64 0, .int .i64 hi] w (Quiet w (.int .i64 (max 0 (min n hi)))) := by
  by_cases h1 : n < 0
  · have e : max 0 (min n hi) = 0 := by omega
    rw [e]
    go_enter Try.func25, Try.ntmps25
    go_wp2
    go_ret
    exact ⟨rfl, 0, rfl⟩
  by_cases h2 : hi < n
  · have e : max 0 (min n hi) = hi := by omega
    rw [e]
    go_enter Try.func25, Try.ntmps25
    go_wp2
    go_ret
    exact ⟨rfl, 0, rfl⟩
  · have e : max 0 (min n hi) = n := by omega
    rw [e]
    go_enter Try.func25, Try.ntmps25
    go_wp2
    go_ret
    exact ⟨rfl, 0, rfl⟩
theorem made_own (w : World) (B r : Nat) (hB : B ≤ w.heap.size) (hb : r ≤ 64) :
    Own (w.alloc (.cells (madeCells #[Value.int .i64 0] r) 3)) B (.slice (some ⟨w.heap.size, 0, none⟩) r r) (List.replicate r 0) :=
  ⟨by rw [ints_length, Nat.mul_one], .inr ⟨w.heap.size, r, madeCells #[Value.int .i64 0] r, by simp, hB, heap_alloc_new _ _, by simp, by unfold maxLen; omega, by simp [madeCells], by rw [toList_madeCells_one, ints_eq]; simp⟩⟩
set_option maxHeartbeats 1600000 in
theorem new_any (n : Int) (r : Nat) (hr : max 0 (min n 64) = (r : Int)) (w : World) :
    Calls Try.prog 8 #[.int .i64 n] w (NewPost (List.replicate r 0) w) := by
  have hb : r ≤ 64 := by omega
  have HR := Lib.hid hr
  have hmk := run_make_row' (P := Try.prog) 24 3 (.int .i64 0) 8 Try.underlying24 infoE rfl .i64 .i64 r (by omega) (by omega)
  clear hr
  go_enter Try.func8, Try.ntmps8
  go_wp2_with (go_at_call 25; refine (clamp_any n 64 _ (by omega)).mono ?_; rintro e w' ⟨rfl, k, rfl⟩; rw [HR.out])
  go_ret
  have h2 := heap2_new (w.drewN k) (.cells (madeCells #[Value.int .i64 0] r) 3) (.cells #[.bool true, .slice (some ⟨w.heap.size, 0, none⟩) r r] 40)
  refine ⟨_, .slice (some ⟨w.heap.size, 0, none⟩) r r, rfl, ⟨h2, ?_, by simp, by simpa using hb⟩, ?_⟩
  · exact (made_own (w.drewN k) w.heap.size r (Nat.le_refl _) hb).fr (by repeat (first | exact Fr.refl No _ | apply Fr.drewN | apply Fr.drew | apply Fr.alloc)) (fun _ _ h => h)
  · exact Fr.below (S := No) (by repeat (first | exact Fr.refl _ _ | apply Fr.drewN | apply Fr.drew | apply Fr.alloc)) (Nat.le_refl _) (fun _ h => h.elim)
set_option maxHeartbeats 1600000 in
theorem clone_any' (B g : Nat) (v : Value) (l : List Int) (w : World) (hs : T w B g v l) :
    Calls Try.prog 17 #[.pointer (some ⟨g, 0, none⟩)] w (NewPost l w) := by
  have c0 : w.cell? ⟨g, 0, none⟩ = some (.bool true) := cell_of hs.blk 0
  have HS := Lib.hid hs
  have hl := hs.len
  clear hs
  go_enter Try.func17, Try.ntmps17
  go_wp2_with (go_at_call 14; refine (all_any B g v l _ HS.out).mono ?_; rintro e w7 ⟨v7, rfl, hown7, hb7⟩; obtain ⟨A7, c7, rfl, _⟩ := hown7.slice)
  go_ret
  exact ⟨_, _, rfl, ⟨heap_alloc_new _ _, hown7.fr (Fr.alloc (Fr.refl No _) _) (fun _ _ h => h), hb7.size, hl⟩, ((Fr.of_below hb7 No).alloc _).below (Nat.le_refl _) (fun _ h => h.elim)⟩

end Go.Proofs.Ytaegmlmibbppoaa.Page
