/- Proved: the law MemMoves of package scutagelaw04 over any arguments. -/
import Derived.Test.YticlhahjgiaieaaMemTop
namespace Go.Proofs.Yticlhahjgiaieaa.MemTop
open Go.RowKit Go.Proofs.Yticlhahjgiaieaa.H Go.Proofs.Yticlhahjgiaieaa.Words Go.Proofs.Yticlhahjgiaieaa.Mem Go.Proofs.Yticlhahjgiaieaa.MemLaw Go.Proofs.Yticlhahjgiaieaa.MemStep Go.Proofs.Yticlhahjgiaieaa.MemRun Go.ChangeShapes Go.WideShapes

theorem moveL_get (l : List Int) (q f n i : Nat) (h : q + n ≤ l.length) (h2 : f + n ≤ l.length) : (moveL l q f n)[i]? = if q ≤ i ∧ i < q + n then l[f + (i - q)]? else l[i]? := by
  have e1 : (l.take q).length = q := by rw [List.length_take]; omega
  have e2 : ((l.drop f).take n).length = n := by rw [List.length_take, List.length_drop]; omega
  unfold moveL
  rw [List.getElem?_append, List.length_append, e1, e2, List.getElem?_append, e1]
  by_cases c1 : i < q
  · rw [if_pos (by omega), if_pos c1, if_neg (by omega), List.getElem?_take, if_pos c1]
  · by_cases c2 : i < q + n
    · rw [if_pos c2, if_neg c1, if_pos (by omega), List.getElem?_take, if_pos (by omega), List.getElem?_drop]
    · rw [if_neg c2, if_neg (by omega), List.getElem?_drop]
      congr 1; omega
theorem moveL_back (l : List Int) (a b n : Nat) (ha : a + n ≤ l.length) (hb : b + n ≤ l.length) (hd : a + n ≤ b ∨ b + n ≤ a) : moveL (moveL l b a n) a b n = moveL l b a n := by
  have hl := moveL_length l b a n hb ha
  apply List.ext_getElem?
  intro i
  rw [moveL_get _ _ _ _ _ (by omega) (by omega), moveL_get _ _ _ _ _ hb ha, moveL_get _ _ _ _ _ hb ha]
  by_cases c : a ≤ i ∧ i < a + n
  · rw [if_pos c, if_pos (by omega), if_neg (by omega)]
    congr 1; omega
  · rw [if_neg c]

theorem set_next (l : List Int) (k : Nat) (h : k < l.length) : (l.take k ++ List.replicate (l.length - k) 0).set k l[k] = l.take (k + 1) ++ List.replicate (l.length - (k + 1)) 0 := by
  have e : (l.take k).length = k := by rw [List.length_take]; omega
  rw [List.set_append_right _ _ (by omega), e, Nat.sub_self, show l.length - k = (l.length - (k + 1)) + 1 by omega, List.replicate_succ, List.set_cons_zero, List.take_succ_eq_append_getElem h, List.append_assoc]
  rfl

set_option maxRecDepth 100000 in
set_option maxHeartbeats 25600000 in
theorem moves_any (v0 : Value) (l0 : List Int) (a b n : Int) (w : World) (hr0 : Rd w v0 l0.length 1 (ints l0)) (hl0 : l0.length ≤ 17592186044416) :
    Calls Try.prog 4 #[v0, .int .i64 a, .int .i64 b, .int .i64 n] w (Same w (.bool true)) := by
  obtain ⟨A0, c0, rfl, hc0⟩ := hr0.slice
  have HR0 := Lib.hid hr0
  clear hr0
  go_enter Try.func4, Try.ntmps4
  go_wp2_with fail
  refine (alive_any _).mono ?_
  rintro e w1 ⟨rfl, hb1⟩
  have B1 := Lib.hid hb1
  clear hb1
  go_upto_if 20 with (fail)
  go_cut [0] (fun v wc => ∃ l : List Int, ∃ A : Option Addr, v = .slice A l.length c0 ∧ l.length ≤ 100 ∧ Hid (Rd w (.slice A l.length c0) l.length 1 (ints l)) ∧ Hid (Below w.heap.size w wc))
  case first =>
    by_cases h3 : 100 < l0.length
    · have e3 : (l0.take 100).length = 100 := by rw [List.length_take]; omega
      have E3 := Lib.hid e3
      clear e3
      go_wp2
      go_meet
      case rel =>
        have ht := HR0.out.take (m := 100) (by omega)
        rw [Nat.mul_one, ints_take] at ht
        exact ⟨l0.take 100, A0, by rw [E3.out], by have := E3.out; omega, Lib.hid (by rw [E3.out]; exact ht), B1⟩
    · go_wp2
      go_meet
      case rel => exact ⟨l0, A0, rfl, by omega, HR0, B1⟩
  case rest =>
    obtain ⟨l, A, rfl, hl, HR, B2⟩ := hcut
    obtain ⟨wb, rfl⟩ : ∃ wb : World, wb = wc := ⟨_, rfl⟩
    clear B1 HR0
    have hm : max 0 (min (l.length : Int) 2048) = (l.length : Int) := by omega
    have HM := Lib.hid hm
    clear hm
    go_wp2_with fail
    refine (new_any l.length l.length HM.out _).mono ?_
    rintro e w3 ⟨g, v, rfl, hs3, hb3⟩
    have S3 := Lib.hid (hs3.lower (B' := w.heap.size) B2.out.size)
    have B3 := Lib.hid (B2.out.trans (hb3.mono B2.out.size))
    clear hs3 hb3
    go_wp2_with fail
    go_loopw [10] (fun i wr => ∃ k : Nat, k ≤ l.length ∧ i = .int .i64 k ∧ Hid (M wr w.heap.size g v (l.take k ++ List.replicate (l.length - k) 0)) ∧ Hid (Below w.heap.size w wr)) (fun i _ => l.length - (intOf i).toNat)
    case atStart => exact ⟨0, Nat.zero_le _, rfl, Lib.hid (by simpa using S3.out), B3⟩
    case round =>
      obtain ⟨k, hk, rfl, HK, HB⟩ := hrel
      by_cases hlt : k < l.length
      · obtain ⟨ad, rfl, x0⟩ := rd_at (HR.out.below HB.out) k hlt
        have i1 : (0 : Int) ≤ (k : Int) := Int.natCast_nonneg _
        have i2 : (k : Int) < (l.length : Int) := by omega
        have HN := Lib.hid (set_next l k hlt)
        go_wp2_with fail
        refine (store_yes w.heap.size g v _ k l[k] _ HK.out (by simp; omega)).mono ?_
        rintro e w4 ⟨rfl, hs4, hf4⟩
        rw [HN.out] at hs4
        have S4 := Lib.hid hs4
        have B4 := Lib.hid (HB.out.trans (HK.out.below hf4 HB.out.size))
        clear hs4 hf4
        go_wp2
        go_roundw
        case rel => exact ⟨k + 1, by omega, by go_num, S4, B4⟩
        case measure => simp [intOf]; omega
      · obtain rfl : k = l.length := by omega
        have S5 : Hid (M wr w.heap.size g v l) := Lib.hid (by have h := HK.out; simpa using h)
        obtain ⟨wo, rfl⟩ : ∃ wo : World, wo = wr := ⟨_, rfl⟩
        clear HK hk hlt
        have RD := Lib.hid (fun (W : World) (h : Fr No wo W) => (HR.out.below HB.out).fr h (fun _ _ h => h))
        by_cases h1 : There l a n
        · have H1 := Lib.hid h1
          by_cases h2 : There l b n
          · have H2 := Lib.hid h2
            by_cases h3 : a < b
            · by_cases h4 : b - a < n
              · obtain ⟨p1, p2, p3, _⟩ := h1
                obtain ⟨p4, _, p6, _⟩ := h2
                go_wp2_with fail
                refine (there_yes A c0 l a n _ H1.out (by omega)).mono ?_
                rintro e wta ⟨rfl, nta, rfl⟩
                go_wp2_with fail
                refine (there_yes A c0 l b n _ H2.out (by omega)).mono ?_
                rintro e wtb ⟨rfl, ntb, rfl⟩
                go_wp2_with fail
                refine (all_any w.heap.size g v l _ (S5.out.no (by repeat (first | exact Fr.refl _ _ | apply Fr.drewN | apply Fr.drew | apply Fr.alloc)))).mono ?_
                rintro e w6 ⟨v6, rfl, ho6, hb6⟩
                obtain ⟨A6, c6, rfl, _⟩ := ho6.slice
                have O6 := Lib.hid ho6
                have F6 := Lib.hid (show Fr No wo w6 from Fr.then_below (by repeat (first | exact Fr.refl _ _ | apply Fr.drewN | apply Fr.drew | apply Fr.alloc)) hb6)
                clear ho6 hb6
                go_wp2_with fail
                refine (Words.same_any A6 A l.length l.length c6 c0 l rfl rfl _ O6.out.rd (RD.out _ F6.out) (by omega)).mono ?_
                rintro e w7 ⟨rfl, n7, rfl⟩
                go_wp2
                go_ret
                exact ⟨rfl, ((Fr.of_below HB.out No).trans (F6.out.drewN n7) (fun i (h : No i) => h.elim)).below (Nat.le_refl _) (fun _ h => h.elim)⟩
              · obtain ⟨a, rfl⟩ := Int.eq_ofNat_of_zero_le h1.1
                obtain ⟨b, rfl⟩ := Int.eq_ofNat_of_zero_le h2.1
                obtain ⟨n, rfl⟩ := Int.eq_ofNat_of_zero_le h1.2.1
                have q1 : a + n ≤ l.length := by unfold There at h1; omega
                have q2 : b + n ≤ l.length := by unfold There at h2; omega
                have h4 : (n : Int) ≤ (b : Int) - a := by omega
                clear h1 h2
                go_wp2_with fail
                refine (there_yes A c0 l a n _ H1.out (by omega)).mono ?_
                rintro e wta ⟨rfl, nta, rfl⟩
                go_wp2_with fail
                refine (there_yes A c0 l b n _ H2.out (by omega)).mono ?_
                rintro e wtb ⟨rfl, ntb, rfl⟩
                go_wp2_with fail
                refine (move_yes w.heap.size g v l b a n _ (S5.out.no (by repeat (first | exact Fr.refl _ _ | apply Fr.drewN | apply Fr.drew | apply Fr.alloc))) (by omega) (by omega)).mono ?_
                rintro e w6 ⟨rfl, hs6, hf6⟩
                have S6 := Lib.hid hs6
                have F6 := Lib.hid (show Fr (Foot g v) wo w6 from Fr.trans (by repeat (first | exact Fr.refl _ _ | apply Fr.drewN | apply Fr.drew | apply Fr.alloc)) hf6 (fun i hi => .inl hi))
                clear hs6 hf6
                go_wp2_with fail
                refine (all_any w.heap.size g v _ _ S6.out).mono ?_
                rintro e w7 ⟨v7, rfl, ho7, hb7⟩
                have O7 := Lib.hid ho7
                have F7 := Lib.hid (Fr.of_below hb7 No)
                clear ho7 hb7
                have HLM : Hid ((moveL l b a n).length = l.length) := Lib.hid (moveL_length _ _ _ _ (by omega) (by omega))
                have HBK : Hid (moveL (moveL l b a n) a b n = moveL l b a n) := Lib.hid (moveL_back l a b n (by omega) (by omega) (by omega))
                obtain ⟨A7, c7, rfl, _⟩ := O7.out.slice
                go_wp2_with fail
                have HC := move_yes w.heap.size g v (moveL l b a n) a b n w7 (S6.out.no F7.out) (by have := HLM.out; omega) (by have := HLM.out; omega)
                rw [HBK.out] at HC
                refine HC.mono ?_
                rintro e w8 ⟨rfl, hs8, hf8⟩
                clear HC
                have N7 : Hid (∀ i, (Value.slice A7 (moveL l b a n).length c7).ownBlock = some i → ¬ Foot g v i) := Lib.hid (fun i hi h => by have := (O7.out.lt i hi).1; have := (S6.out.foot_lt i h).2; omega)
                have S8 := Lib.hid hs8
                have O8 := Lib.hid (O7.out.fr hf8 N7.out)
                have F8 := Lib.hid ((F6.out.trans F7.out (fun i (h : No i) => h.elim)).trans hf8 (fun i hi => .inl hi))
                clear hs8 hf8
                go_wp2_with fail
                refine (all_any w.heap.size g v _ _ S8.out).mono ?_
                rintro e w9 ⟨v9, rfl, ho9, hb9⟩
                obtain ⟨A9, c9, rfl, _⟩ := ho9.slice
                have O9 := Lib.hid ho9
                have F9 := Lib.hid (Fr.of_below hb9 No)
                clear ho9 hb9
                go_wp2_with fail
                refine (Words.same_any A9 A7 _ _ c9 c7 (moveL l b a n) rfl rfl _ O9.out.rd (O8.out.fr F9.out (fun _ _ h => h)).rd (by have := HLM.out; omega)).mono ?_
                rintro e w10 ⟨rfl, n10, rfl⟩
                have FA : Hid (Fr (Foot g v) wo (w9.drewN n10)) := Lib.hid ((F8.out.trans F9.out (fun i (h : No i) => h.elim)).drewN n10)
                have RD2 : Hid (Rd (w9.drewN n10) (.slice A l.length c0) l.length 1 (ints l)) := Lib.hid (HR.out.below ((HB.out.trans (S5.out.below FA.out HB.out.size))))
                have O10 : Hid (Own (w9.drewN n10) w6.heap.size (.slice A7 (moveL l b a n).length c7) (moveL l b a n)) := Lib.hid (O8.out.fr (F9.out.drewN n10) (fun _ _ h => h))
                have BE : Hid (Below w.heap.size w (w9.drewN n10)) := Lib.hid (HB.out.trans (S5.out.below FA.out HB.out.size))
                go_wp2_with fail
                generalize w9.drewN n10 = wf at FA RD2 O10 BE ⊢
                go_loopw [14] (fun i wr => ∃ k : Nat, k ≤ l.length ∧ i = .int .i64 k ∧ wr = wf) (fun i _ => l.length - (intOf i).toNat)
                case atStart => exact ⟨0, Nat.zero_le _, rfl, rfl⟩
                case round =>
                  obtain ⟨k, hk, rfl, hwf⟩ := hrel
                  subst hwf
                  by_cases hlt : k < l.length
                  · obtain ⟨ad, rfl, x0⟩ := rd_at RD2.out k hlt
                    obtain ⟨d, y, rfl, y0, _, hy⟩ := O10.out.cell k (by have := HLM.out; omega)
                    rw [moveL_get _ _ _ _ _ (by omega) (by omega)] at hy
                    have i1 : (0 : Int) ≤ (k : Int) := Int.natCast_nonneg _
                    have i2 : (k : Int) < (l.length : Int) := by omega
                    have i3 : (k : Int) < ((moveL l b a n).length : Int) := by have := HLM.out; omega
                    by_cases hin : b ≤ k ∧ k < b + n
                    · rw [if_pos hin, List.getElem?_eq_getElem (by omega)] at hy
                      injection hy with hy
                      have x2 : wr.cell? (ad.add ((a : Int) + k - b).toNat) = some (.int .i64 y) := by
                        obtain ⟨ad2, he, h2⟩ := rd_at RD2.out (a + (k - b)) (by omega)
                        injection he with he
                        subst he
                        rw [show ((a : Int) + k - b).toNat = a + (k - b) by omega, h2, hy]
                      have x3 : wr.cell? (ad.add (a + k - b)) = some (.int .i64 y) := by
                        rw [show a + k - b = ((a : Int) + k - b).toNat by omega, x2]
                      have j1 : (b : Int) ≤ k := by omega
                      have j2 : (k : Int) < (b : Int) + n := by omega
                      have j3 : (0 : Int) ≤ (a : Int) + k - b := by omega
                      have j4 : (a : Int) + k - b < (l.length : Int) := by omega
                      clear hy hin
                      go_wp2
                      go_roundw
                      case rel => exact ⟨k + 1, by omega, by go_num, by first | rfl | trivial⟩
                      case measure => simp [intOf]; omega
                    · rw [if_neg hin, List.getElem?_eq_getElem hlt] at hy
                      injection hy with hy
                      rw [hy] at x0
                      clear hy
                      by_cases j1 : k < b
                      · have j2 : (k : Int) < b := by omega
                        clear hin
                        go_wp2
                        go_roundw
                        case rel => exact ⟨k + 1, by omega, by go_num, by first | rfl | trivial⟩
                        case measure => simp [intOf]; omega
                      · have j2 : (b : Int) ≤ k := by omega
                        have j3 : (b : Int) + n ≤ k := by omega
                        clear hin
                        go_wp2
                        go_roundw
                        case rel => exact ⟨k + 1, by omega, by go_num, by first | rfl | trivial⟩
                        case measure => simp [intOf]; omega
                  · obtain rfl : k = l.length := by omega
                    go_wp2
                    go_ret
                    exact ⟨rfl, BE.out⟩
            · have h3 : b ≤ a := by omega
              by_cases h4 : a - b < n
              · obtain ⟨p1, p2, p3, _⟩ := h1
                obtain ⟨p4, _, p6, _⟩ := h2
                go_wp2_with fail
                refine (there_yes A c0 l a n _ H1.out (by omega)).mono ?_
                rintro e wta ⟨rfl, nta, rfl⟩
                go_wp2_with fail
                refine (there_yes A c0 l b n _ H2.out (by omega)).mono ?_
                rintro e wtb ⟨rfl, ntb, rfl⟩
                go_wp2_with fail
                refine (all_any w.heap.size g v l _ (S5.out.no (by repeat (first | exact Fr.refl _ _ | apply Fr.drewN | apply Fr.drew | apply Fr.alloc)))).mono ?_
                rintro e w6 ⟨v6, rfl, ho6, hb6⟩
                obtain ⟨A6, c6, rfl, _⟩ := ho6.slice
                have O6 := Lib.hid ho6
                have F6 := Lib.hid (show Fr No wo w6 from Fr.then_below (by repeat (first | exact Fr.refl _ _ | apply Fr.drewN | apply Fr.drew | apply Fr.alloc)) hb6)
                clear ho6 hb6
                go_wp2_with fail
                refine (Words.same_any A6 A l.length l.length c6 c0 l rfl rfl _ O6.out.rd (RD.out _ F6.out) (by omega)).mono ?_
                rintro e w7 ⟨rfl, n7, rfl⟩
                go_wp2
                go_ret
                exact ⟨rfl, ((Fr.of_below HB.out No).trans (F6.out.drewN n7) (fun i (h : No i) => h.elim)).below (Nat.le_refl _) (fun _ h => h.elim)⟩
              · obtain ⟨a, rfl⟩ := Int.eq_ofNat_of_zero_le h1.1
                obtain ⟨b, rfl⟩ := Int.eq_ofNat_of_zero_le h2.1
                obtain ⟨n, rfl⟩ := Int.eq_ofNat_of_zero_le h1.2.1
                have q1 : a + n ≤ l.length := by unfold There at h1; omega
                have q2 : b + n ≤ l.length := by unfold There at h2; omega
                have h4 : (n : Int) ≤ (a : Int) - b := by omega
                clear h1 h2
                go_wp2_with fail
                refine (there_yes A c0 l a n _ H1.out (by omega)).mono ?_
                rintro e wta ⟨rfl, nta, rfl⟩
                go_wp2_with fail
                refine (there_yes A c0 l b n _ H2.out (by omega)).mono ?_
                rintro e wtb ⟨rfl, ntb, rfl⟩
                go_wp2_with fail
                refine (move_yes w.heap.size g v l b a n _ (S5.out.no (by repeat (first | exact Fr.refl _ _ | apply Fr.drewN | apply Fr.drew | apply Fr.alloc))) (by omega) (by omega)).mono ?_
                rintro e w6 ⟨rfl, hs6, hf6⟩
                have S6 := Lib.hid hs6
                have F6 := Lib.hid (show Fr (Foot g v) wo w6 from Fr.trans (by repeat (first | exact Fr.refl _ _ | apply Fr.drewN | apply Fr.drew | apply Fr.alloc)) hf6 (fun i hi => .inl hi))
                clear hs6 hf6
                go_wp2_with fail
                refine (all_any w.heap.size g v _ _ S6.out).mono ?_
                rintro e w7 ⟨v7, rfl, ho7, hb7⟩
                have O7 := Lib.hid ho7
                have F7 := Lib.hid (Fr.of_below hb7 No)
                clear ho7 hb7
                have HLM : Hid ((moveL l b a n).length = l.length) := Lib.hid (moveL_length _ _ _ _ (by omega) (by omega))
                have HBK : Hid (moveL (moveL l b a n) a b n = moveL l b a n) := Lib.hid (moveL_back l a b n (by omega) (by omega) (by omega))
                obtain ⟨A7, c7, rfl, _⟩ := O7.out.slice
                go_wp2_with fail
                have HC := move_yes w.heap.size g v (moveL l b a n) a b n w7 (S6.out.no F7.out) (by have := HLM.out; omega) (by have := HLM.out; omega)
                rw [HBK.out] at HC
                refine HC.mono ?_
                rintro e w8 ⟨rfl, hs8, hf8⟩
                clear HC
                have N7 : Hid (∀ i, (Value.slice A7 (moveL l b a n).length c7).ownBlock = some i → ¬ Foot g v i) := Lib.hid (fun i hi h => by have := (O7.out.lt i hi).1; have := (S6.out.foot_lt i h).2; omega)
                have S8 := Lib.hid hs8
                have O8 := Lib.hid (O7.out.fr hf8 N7.out)
                have F8 := Lib.hid ((F6.out.trans F7.out (fun i (h : No i) => h.elim)).trans hf8 (fun i hi => .inl hi))
                clear hs8 hf8
                go_wp2_with fail
                refine (all_any w.heap.size g v _ _ S8.out).mono ?_
                rintro e w9 ⟨v9, rfl, ho9, hb9⟩
                obtain ⟨A9, c9, rfl, _⟩ := ho9.slice
                have O9 := Lib.hid ho9
                have F9 := Lib.hid (Fr.of_below hb9 No)
                clear ho9 hb9
                go_wp2_with fail
                refine (Words.same_any A9 A7 _ _ c9 c7 (moveL l b a n) rfl rfl _ O9.out.rd (O8.out.fr F9.out (fun _ _ h => h)).rd (by have := HLM.out; omega)).mono ?_
                rintro e w10 ⟨rfl, n10, rfl⟩
                have FA : Hid (Fr (Foot g v) wo (w9.drewN n10)) := Lib.hid ((F8.out.trans F9.out (fun i (h : No i) => h.elim)).drewN n10)
                have RD2 : Hid (Rd (w9.drewN n10) (.slice A l.length c0) l.length 1 (ints l)) := Lib.hid (HR.out.below ((HB.out.trans (S5.out.below FA.out HB.out.size))))
                have O10 : Hid (Own (w9.drewN n10) w6.heap.size (.slice A7 (moveL l b a n).length c7) (moveL l b a n)) := Lib.hid (O8.out.fr (F9.out.drewN n10) (fun _ _ h => h))
                have BE : Hid (Below w.heap.size w (w9.drewN n10)) := Lib.hid (HB.out.trans (S5.out.below FA.out HB.out.size))
                go_wp2_with fail
                generalize w9.drewN n10 = wf at FA RD2 O10 BE ⊢
                go_loopw [14] (fun i wr => ∃ k : Nat, k ≤ l.length ∧ i = .int .i64 k ∧ wr = wf) (fun i _ => l.length - (intOf i).toNat)
                case atStart => exact ⟨0, Nat.zero_le _, rfl, rfl⟩
                case round =>
                  obtain ⟨k, hk, rfl, hwf⟩ := hrel
                  subst hwf
                  by_cases hlt : k < l.length
                  · obtain ⟨ad, rfl, x0⟩ := rd_at RD2.out k hlt
                    obtain ⟨d, y, rfl, y0, _, hy⟩ := O10.out.cell k (by have := HLM.out; omega)
                    rw [moveL_get _ _ _ _ _ (by omega) (by omega)] at hy
                    have i1 : (0 : Int) ≤ (k : Int) := Int.natCast_nonneg _
                    have i2 : (k : Int) < (l.length : Int) := by omega
                    have i3 : (k : Int) < ((moveL l b a n).length : Int) := by have := HLM.out; omega
                    by_cases hin : b ≤ k ∧ k < b + n
                    · rw [if_pos hin, List.getElem?_eq_getElem (by omega)] at hy
                      injection hy with hy
                      have x2 : wr.cell? (ad.add ((a : Int) + k - b).toNat) = some (.int .i64 y) := by
                        obtain ⟨ad2, he, h2⟩ := rd_at RD2.out (a + (k - b)) (by omega)
                        injection he with he
                        subst he
                        rw [show ((a : Int) + k - b).toNat = a + (k - b) by omega, h2, hy]
                      have x3 : wr.cell? (ad.add (a + k - b)) = some (.int .i64 y) := by
                        rw [show a + k - b = ((a : Int) + k - b).toNat by omega, x2]
                      have j1 : (b : Int) ≤ k := by omega
                      have j2 : (k : Int) < (b : Int) + n := by omega
                      have j3 : (0 : Int) ≤ (a : Int) + k - b := by omega
                      have j4 : (a : Int) + k - b < (l.length : Int) := by omega
                      clear hy hin
                      go_wp2
                      go_roundw
                      case rel => exact ⟨k + 1, by omega, by go_num, by first | rfl | trivial⟩
                      case measure => simp [intOf]; omega
                    · rw [if_neg hin, List.getElem?_eq_getElem hlt] at hy
                      injection hy with hy
                      rw [hy] at x0
                      clear hy
                      by_cases j1 : k < b
                      · have j2 : (k : Int) < b := by omega
                        clear hin
                        go_wp2
                        go_roundw
                        case rel => exact ⟨k + 1, by omega, by go_num, by first | rfl | trivial⟩
                        case measure => simp [intOf]; omega
                      · have j2 : (b : Int) ≤ k := by omega
                        have j3 : (b : Int) + n ≤ k := by omega
                        clear hin
                        go_wp2
                        go_roundw
                        case rel => exact ⟨k + 1, by omega, by go_num, by first | rfl | trivial⟩
                        case measure => simp [intOf]; omega
                  · obtain rfl : k = l.length := by omega
                    go_wp2
                    go_ret
                    exact ⟨rfl, BE.out⟩
          · have H2 := Lib.hid h2
            clear h1 h2
            go_wp2_with fail
            refine (there_yes A c0 l a n _ H1.out (by omega)).mono ?_
            rintro e wta ⟨rfl, nta, rfl⟩
            go_wp2_with fail
            refine (there_no A c0 l b n _ H2.out (by omega)).mono ?_
            rintro e wtb ⟨rfl, ntb, rfl⟩
            go_wp2_with fail
            refine (all_any w.heap.size g v l _ (S5.out.no (by repeat (first | exact Fr.refl _ _ | apply Fr.drewN | apply Fr.drew | apply Fr.alloc)))).mono ?_
            rintro e w6 ⟨v6, rfl, ho6, hb6⟩
            obtain ⟨A6, c6, rfl, _⟩ := ho6.slice
            have O6 := Lib.hid ho6
            have F6 := Lib.hid (show Fr No wo w6 from Fr.then_below (by repeat (first | exact Fr.refl _ _ | apply Fr.drewN | apply Fr.drew | apply Fr.alloc)) hb6)
            clear ho6 hb6
            go_wp2_with fail
            refine (Words.same_any A6 A l.length l.length c6 c0 l rfl rfl _ O6.out.rd (RD.out _ F6.out) (by omega)).mono ?_
            rintro e w7 ⟨rfl, n7, rfl⟩
            go_wp2
            go_ret
            exact ⟨rfl, ((Fr.of_below HB.out No).trans (F6.out.drewN n7) (fun i (h : No i) => h.elim)).below (Nat.le_refl _) (fun _ h => h.elim)⟩
        · have H1 := Lib.hid h1
          clear h1
          go_wp2_with fail
          refine (there_no A c0 l a n _ H1.out (by omega)).mono ?_
          rintro e wta ⟨rfl, nta, rfl⟩
          go_wp2_with fail
          refine (all_any w.heap.size g v l _ (S5.out.no (by repeat (first | exact Fr.refl _ _ | apply Fr.drewN | apply Fr.drew | apply Fr.alloc)))).mono ?_
          rintro e w6 ⟨v6, rfl, ho6, hb6⟩
          obtain ⟨A6, c6, rfl, _⟩ := ho6.slice
          have O6 := Lib.hid ho6
          have F6 := Lib.hid (show Fr No wo w6 from Fr.then_below (by repeat (first | exact Fr.refl _ _ | apply Fr.drewN | apply Fr.drew | apply Fr.alloc)) hb6)
          clear ho6 hb6
          go_wp2_with fail
          refine (Words.same_any A6 A l.length l.length c6 c0 l rfl rfl _ O6.out.rd (RD.out _ F6.out) (by omega)).mono ?_
          rintro e w7 ⟨rfl, n7, rfl⟩
          go_wp2
          go_ret
          exact ⟨rfl, ((Fr.of_below HB.out No).trans (F6.out.drewN n7) (fun i (h : No i) => h.elim)).below (Nat.le_refl _) (fun _ h => h.elim)⟩

end Go.Proofs.Yticlhahjgiaieaa.MemTop
