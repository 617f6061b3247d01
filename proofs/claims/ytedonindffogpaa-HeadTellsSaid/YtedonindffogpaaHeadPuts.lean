/- Proved: the law HeadPuts of package scutagelaw10 over any arguments. -/
import Derived.Test.YtedonindffogpaaHeadLaw
namespace Go.Proofs.Ytedonindffogpaa.HeadLaw
open Go.RowKit Go.Proofs.Ytedonindffogpaa.H Go.Proofs.Ytedonindffogpaa.Words Go.Proofs.Ytedonindffogpaa.Mem Go.Proofs.Ytedonindffogpaa.Head

set_option maxRecDepth 100000 in
set_option maxHeartbeats 25600000 in
theorem puts_any (ws a s n i : Int) (w : World) :
    Calls Try.prog 5 #[.int .i64 ws, .int .i64 a, .int .i64 s, .int .i64 n, .int .i64 i] w (Same w (.bool true)) := by
  obtain ⟨r, hrm⟩ : ∃ r : Nat, max 0 (min ws 300) = (r : Int) := ⟨(max 0 (min ws 300)).toNat, by omega⟩
  have hr : r ≤ 300 := by omega
  have HM := Lib.hid hrm
  have HM2 : Hid (max 0 (min (r : Int) 2048) = (r : Int)) := Lib.hid (by omega)
  have HLR : Hid ((List.replicate r (0 : Int)).length = r) := Lib.hid (by simp)
  have HFL : Hid (fillL (List.replicate r 0) 0 r (-1) = List.replicate r (-1)) := Lib.hid (by simp [fillL])
  have HL1 : Hid ((List.replicate r (-1 : Int)).length = r) := Lib.hid (by simp)
  have HB1 : Hid (∀ b : Int, Bare (List.replicate r (-1)) b) := Lib.hid (fun b => ⟨fun x hx => by rw [List.eq_of_mem_replicate hx]; decide, fun k x hk hx hw _ => by
    have := List.eq_of_mem_replicate (List.mem_of_getElem? hx)
    subst this
    exact absurd hw.1 (by decide)⟩)
  clear hrm
  have hcase : (¬ (Head.Good s n ∧ Fits (List.replicate r (-1)) a n)) ∨ (Head.Good s n ∧ 0 ≤ a ∧ a < r ∧ n < (r : Int) - a) := by
    by_cases h : Head.Good s n ∧ 0 ≤ a ∧ a < r ∧ n < (r : Int) - a
    · exact .inr h
    · refine .inl (fun h2 => h ⟨h2.1, ?_⟩)
      have h3 := h2.2
      unfold Fits at h3
      rw [List.length_replicate] at h3
      exact h3
  rcases hcase with hbad | ⟨hg, g1, g2, g3⟩
  · have hc : (¬ Head.Good s n) ∨ (Head.Good s n ∧ a < 0) ∨ (Head.Good s n ∧ 0 ≤ a ∧ (r : Int) ≤ a) ∨ (Head.Good s n ∧ 0 ≤ a ∧ a < r ∧ (r : Int) - a ≤ n) := by
      by_cases h : Head.Good s n
      · have h5 : ¬ (0 ≤ a ∧ a < r ∧ n < (r : Int) - a) := fun h6 => hbad ⟨h, by unfold Fits; rw [List.length_replicate]; exact h6⟩
        have : a < 0 ∨ (0 ≤ a ∧ (r : Int) ≤ a) ∨ (0 ≤ a ∧ a < r ∧ (r : Int) - a ≤ n) := by omega
        rcases this with h1 | h1 | h1
        · exact .inr (.inl ⟨h, h1⟩)
        · exact .inr (.inr (.inl ⟨h, h1⟩))
        · exact .inr (.inr (.inr ⟨h, h1⟩))
      · exact .inl h
    have HN := Lib.hid hbad
    clear hbad
    rcases hc with h1 | ⟨hg, h1⟩ | ⟨hg, h1, h2⟩ | ⟨hg, h1, h2, h3⟩
    all_goals
      first
      | have HY := Lib.hid hg
      | have HX := Lib.hid h1
      first
      | clear hg
      | clear h1
      (try (have f3 : decide (n < (r : Int) - a) = false := decide_eq_false (by omega)))
      go_enter Try.func5, Try.ntmps5
      go_wp2_with fail
      refine (alive_any _).mono ?_
      rintro e w1 ⟨rfl, hb1⟩
      have B1 := Lib.hid hb1
      clear hb1
      go_wp2_with fail
      refine (near_any ws 0 300 r HM.out (by omega) _).mono ?_
      rintro e wn ⟨rfl, nn, rfl⟩
      go_wp2_with fail
      refine (new_any r r HM2.out _).mono ?_
      rintro e w3 ⟨g, v, rfl, hs3, hb3⟩
      have S3 := Lib.hid (hs3.lower (B' := w.heap.size) (by have := B1.out.size; simpa using this))
      have B3 : Hid (Below w.heap.size w w3) := Lib.hid (((Fr.of_below B1.out No).drewN nn).below (Nat.le_refl _) (fun _ h => h.elim) |>.trans (hb3.mono (by have := B1.out.size; simpa using this)))
      clear hs3 hb3 B1
      go_wp2_with fail
      have HC := fill_yes w.heap.size g v (List.replicate r 0) 0 r (-1) w3 S3.out (by rw [HLR.out]; omega)
      rw [HFL.out] at HC
      refine HC.mono ?_
      rintro e w2 ⟨rfl, hs2, hf2⟩
      clear HC
      have S2 := Lib.hid hs2
      have B2 := Lib.hid (B3.out.trans (S3.out.below hf2 B3.out.size))
      clear hs2 hf2
      go_wp2_with (first
        | (go_at_call 7; refine (make_yes s n _ HY.out).mono ?_; rintro e wl ⟨rfl, nl, rfl⟩)
        | (go_at_call 7; refine (make_no s n _ HX.out).mono ?_; rintro e wl ⟨rfl, nl, rfl⟩)
        | (go_at_call 15; refine (put_no w.heap.size g v _ a s n _ (S2.out.no (by repeat (first | exact Fr.refl _ _ | apply Fr.drewN | apply Fr.drew | apply Fr.alloc))) HN.out).mono ?_; rintro e wl ⟨rfl, nl, rfl⟩)
        | (go_at_call 11; refine (read_no w.heap.size g v _ a _ (S2.out.no (by repeat (first | exact Fr.refl _ _ | apply Fr.drewN | apply Fr.drew | apply Fr.alloc))) (HB1.out a)).mono ?_; rintro e wl ⟨rfl, nl, rfl⟩)
        | (go_at_call 12; refine (field_no w.heap.size g v _ a i _ (S2.out.no (by repeat (first | exact Fr.refl _ _ | apply Fr.drewN | apply Fr.drew | apply Fr.alloc))) (HB1.out a)).mono ?_; rintro e wl ⟨rfl, nl, rfl⟩)
        | (go_at_call 16; refine (all_any w.heap.size g v _ _ (S2.out.no (by repeat (first | exact Fr.refl _ _ | apply Fr.drewN | apply Fr.drew | apply Fr.alloc)))).mono ?_; rintro e w8 ⟨v8, rfl, ho8, hb8⟩; obtain ⟨A8, c8, rfl, _⟩ := ho8.slice; have O8 := Lib.hid ho8; have F8 := Lib.hid (show Fr No w2 w8 from Fr.then_below (by repeat (first | exact Fr.refl _ _ | apply Fr.drewN | apply Fr.drew | apply Fr.alloc)) hb8); clear ho8 hb8))
      go_loopw [21] (fun p wr => ∃ k : Nat, k ≤ r ∧ p = .int .i64 k ∧ wr = w8) (fun p _ => r - (intOf p).toNat)
      case atStart => exact ⟨0, Nat.zero_le _, rfl, rfl⟩
      case round =>
        obtain ⟨k, hk, rfl, hw8⟩ := hrel
        obtain rfl : wr = w8 := hw8
        by_cases hlt : k < r
        · obtain ⟨d, y, rfl, y0, _, hy⟩ := O8.out.cell k (by rw [HL1.out]; exact hlt)
          have hy2 := List.eq_of_mem_replicate (List.mem_of_getElem? hy)
          subst hy2
          have i1 : (0 : Int) ≤ (k : Int) := Int.natCast_nonneg _
          have i2 : (k : Int) < (r : Int) := by omega
          clear hy
          go_wp2
          go_roundw
          case rel => exact ⟨k + 1, by omega, by go_num, by first | rfl | trivial⟩
          case measure => simp [intOf]; omega
        · obtain rfl : k = r := by omega
          go_wp2
          go_ret
          exact ⟨rfl, ((Fr.of_below B2.out No).trans (S' := No) F8.out (fun i (h : No i) => h.elim)).below (Nat.le_refl _) (fun _ h => h.elim)⟩
  · obtain ⟨a, rfl⟩ := Int.eq_ofNat_of_zero_le g1
    have HY := Lib.hid hg
    have ha : a < r := by omega
    obtain ⟨s0, s1, n0, n1⟩ := hg
    have HXG : Hid (((List.replicate r (-1 : Int)).set a (s * 128 + n))[a]? = some (s * 128 + n)) := Lib.hid (by rw [List.getElem?_set_self (by rw [HL1.out]; exact ha)])
    have HWD : Hid (Word (s * 128 + n)) := Lib.hid (by unfold Word; omega)
    have HFT : Hid (Fits (List.replicate r (-1)) a n) := Lib.hid (by unfold Fits; rw [HL1.out]; omega)
    have HL2 : Hid (((List.replicate r (-1 : Int)).set a (s * 128 + n)).length = r) := Lib.hid (by rw [List.length_set]; exact HL1.out)
    have e1 : (s * 128 + n) / 128 = s := by omega
    have e2 : (s * 128 + n) % 128 = n := by omega
    have HRD : Hid (∀ (v : Value) (g : Nat) (W : World), M W w.heap.size g v ((List.replicate r (-1)).set a (s * 128 + n)) → Calls Try.prog 11 #[.pointer (some ⟨g, 0, none⟩), .int .i64 a] W (Quiet W (.tuple #[.int .i64 s, .int .i64 n, .bool true]))) := Lib.hid (fun v g W hm => by
      have h := read_yes w.heap.size g v _ a _ W hm HXG.out HWD.out (by rw [e2, HL2.out]; omega)
      rw [e1, e2] at h
      exact h)
    have HFY : Hid (0 ≤ i ∧ i < n → ∀ (v : Value) (g : Nat) (W : World), M W w.heap.size g v ((List.replicate r (-1)).set a (s * 128 + n)) → Calls Try.prog 12 #[.pointer (some ⟨g, 0, none⟩), .int .i64 a, .int .i64 i] W (Quiet W (.tuple #[.int .i64 (a + 1 + i), .bool true]))) := Lib.hid (fun hi v g W hm =>
      field_yes w.heap.size g v _ a _ i W hm HXG.out HWD.out (by rw [e2, HL2.out]; omega) hi.1 (by rw [e2]; exact hi.2))
    have HFO : Hid (i < 0 ∨ n ≤ i → ∀ (v : Value) (g : Nat) (W : World), M W w.heap.size g v ((List.replicate r (-1)).set a (s * 128 + n)) → Calls Try.prog 12 #[.pointer (some ⟨g, 0, none⟩), .int .i64 a, .int .i64 i] W (Quiet W (.tuple #[.int .i64 0, .bool false]))) := Lib.hid (fun hi v g W hm =>
      field_out w.heap.size g v _ a _ i W hm HXG.out HWD.out (by rw [e2, HL2.out]; omega) (by rw [e2]; exact hi))
    clear e1 e2
    have f3 : decide (n < (r : Int) - a) = true := decide_eq_true (by omega)
    have hi : i < 0 ∨ (0 ≤ i ∧ n ≤ i) ∨ (0 ≤ i ∧ i < n) := by omega
    have xn : 0 ≤ s * 128 + n := by omega
    rcases hi with j1 | ⟨j1, j2⟩ | ⟨j1, j2⟩
    all_goals
      (try (have YO : Hid (i < 0 ∨ n ≤ i) := Lib.hid (by omega)))
      (try (have YI : Hid (0 ≤ i ∧ i < n) := Lib.hid ⟨by omega, by omega⟩))
      go_enter Try.func5, Try.ntmps5
      go_wp2_with fail
      refine (alive_any _).mono ?_
      rintro e w1 ⟨rfl, hb1⟩
      have B1 := Lib.hid hb1
      clear hb1
      go_wp2_with fail
      refine (near_any ws 0 300 r HM.out (by omega) _).mono ?_
      rintro e wn ⟨rfl, nn, rfl⟩
      go_wp2_with fail
      refine (new_any r r HM2.out _).mono ?_
      rintro e w3 ⟨g, v, rfl, hs3, hb3⟩
      have S3 := Lib.hid (hs3.lower (B' := w.heap.size) (by have := B1.out.size; simpa using this))
      have B3 : Hid (Below w.heap.size w w3) := Lib.hid (((Fr.of_below B1.out No).drewN nn).below (Nat.le_refl _) (fun _ h => h.elim) |>.trans (hb3.mono (by have := B1.out.size; simpa using this)))
      clear hs3 hb3 B1
      go_wp2_with fail
      have HC := fill_yes w.heap.size g v (List.replicate r 0) 0 r (-1) w3 S3.out (by rw [HLR.out]; omega)
      rw [HFL.out] at HC
      refine HC.mono ?_
      rintro e w2 ⟨rfl, hs2, hf2⟩
      clear HC
      have S2 := Lib.hid hs2
      have B2 := Lib.hid (B3.out.trans (S3.out.below hf2 B3.out.size))
      clear hs2 hf2
      go_wp2_with fail
      refine (make_yes s n _ HY.out).mono ?_
      rintro e wm ⟨rfl, nm, rfl⟩
      go_wp2_with fail
      refine (put_yes w.heap.size g v _ a s n _ (S2.out.no (by repeat (first | exact Fr.refl _ _ | apply Fr.drewN | apply Fr.drew | apply Fr.alloc))) HY.out HFT.out).mono ?_
      rintro e w4 ⟨rfl, hs4, hf4⟩
      have S4 := Lib.hid hs4
      have B4 := Lib.hid (B2.out.trans (S2.out.below (Fr.trans (by repeat (first | exact Fr.refl _ _ | apply Fr.drewN | apply Fr.drew | apply Fr.alloc)) hf4 (fun i hi => .inl hi)) B2.out.size))
      clear hs4 hf4
      go_wp2_with (first
        | (go_at_call 11; refine (HRD.out v g _ (S4.out.no (by repeat (first | exact Fr.refl _ _ | apply Fr.drewN | apply Fr.drew | apply Fr.alloc)))).mono ?_; rintro e wl ⟨rfl, nl, rfl⟩)
        | (go_at_call 12; refine (HFO.out YO.out v g _ (S4.out.no (by repeat (first | exact Fr.refl _ _ | apply Fr.drewN | apply Fr.drew | apply Fr.alloc)))).mono ?_; rintro e wl ⟨rfl, nl, rfl⟩)
        | (go_at_call 12; refine (HFY.out YI.out v g _ (S4.out.no (by repeat (first | exact Fr.refl _ _ | apply Fr.drewN | apply Fr.drew | apply Fr.alloc)))).mono ?_; rintro e wl ⟨rfl, nl, rfl⟩)
        | (go_at_call 16; refine (all_any w.heap.size g v _ _ (S4.out.no (by repeat (first | exact Fr.refl _ _ | apply Fr.drewN | apply Fr.drew | apply Fr.alloc)))).mono ?_; rintro e w8 ⟨v8, rfl, ho8, hb8⟩; obtain ⟨A8, c8, rfl, _⟩ := ho8.slice; have O8 := Lib.hid ho8; have F8 := Lib.hid (show Fr No w4 w8 from Fr.then_below (by repeat (first | exact Fr.refl _ _ | apply Fr.drewN | apply Fr.drew | apply Fr.alloc)) hb8); clear ho8 hb8))
      go_loopw [21] (fun p wr => ∃ k : Nat, k ≤ r ∧ p = .int .i64 k ∧ wr = w8) (fun p _ => r - (intOf p).toNat)
      case atStart => exact ⟨0, Nat.zero_le _, rfl, rfl⟩
      case round =>
        obtain ⟨k, hk, rfl, hw8⟩ := hrel
        obtain rfl : wr = w8 := hw8
        by_cases hlt : k < r
        · obtain ⟨d, y, rfl, y0, _, hy⟩ := O8.out.cell k (by rw [HL2.out]; exact hlt)
          have i1 : (0 : Int) ≤ (k : Int) := Int.natCast_nonneg _
          have i2 : (k : Int) < (r : Int) := by omega
          by_cases hka : k = a
          · subst hka
            rw [HXG.out] at hy
            injection hy with hy
            subst hy
            have f1 : (s * 128 + n == -1) = false := beq_eq_false_iff_ne.mpr (by omega)
            go_wp2
            go_roundw
            case rel => exact ⟨k + 1, by omega, by go_num, by first | rfl | trivial⟩
            case measure => simp [intOf]; omega
          · rw [List.getElem?_set_ne (by omega)] at hy
            have hy2 := List.eq_of_mem_replicate (List.mem_of_getElem? hy)
            subst hy2
            have f1 : ((k : Int) == (a : Int)) = false := beq_eq_false_iff_ne.mpr (by omega)
            clear hy
            go_wp2
            go_roundw
            case rel => exact ⟨k + 1, by omega, by go_num, by first | rfl | trivial⟩
            case measure => simp [intOf]; omega
        · obtain rfl : k = r := by omega
          go_wp2
          go_ret
          exact ⟨rfl, ((Fr.of_below B4.out No).trans (S' := No) F8.out (fun i (h : No i) => h.elim)).below (Nat.le_refl _) (fun _ h => h.elim)⟩

end Go.Proofs.Ytedonindffogpaa.HeadLaw
