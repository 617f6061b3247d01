/- Proved: the law HeadReads of package scutagelaw10 over any arguments. -/
import Derived.Test.YtedonindffogpaaHeadLaw
namespace Go.Proofs.Ytedonindffogpaa.HeadLaw
open Go.RowKit Go.Proofs.Ytedonindffogpaa.H Go.Proofs.Ytedonindffogpaa.Words Go.Proofs.Ytedonindffogpaa.Mem Go.Proofs.Ytedonindffogpaa.Head

theorem set_next (l : List Int) (k : Nat) (h : k < l.length) : (l.take k ++ List.replicate (l.length - k) 0).set k l[k] = l.take (k + 1) ++ List.replicate (l.length - (k + 1)) 0 := by
  have e : (l.take k).length = k := by rw [List.length_take]; omega
  rw [List.set_append_right _ _ (by omega), e, Nat.sub_self, show l.length - k = (l.length - (k + 1)) + 1 by omega, List.replicate_succ, List.set_cons_zero, List.take_succ_eq_append_getElem h, List.append_assoc]
  rfl

set_option maxRecDepth 100000 in
set_option maxHeartbeats 25600000 in
theorem reads_any (v0 : Value) (l0 : List Int) (a i : Int) (w : World) (hr0 : Rd w v0 l0.length 1 (ints l0)) (hl0 : l0.length ≤ 17592186044416) (hbd : ∀ x ∈ l0, x / 128 ≤ 72057594037927936) :
    Calls Try.prog 4 #[v0, .int .i64 a, .int .i64 i] w (Same w (.bool true)) := by
  obtain ⟨A0, c0, rfl, hc0⟩ := hr0.slice
  have HR0 := Lib.hid hr0
  have HBD := Lib.hid hbd
  clear hr0 hbd
  go_enter Try.func4, Try.ntmps4
  go_wp2_with fail
  refine (alive_any _).mono ?_
  rintro e w1 ⟨rfl, hb1⟩
  have B1 := Lib.hid hb1
  clear hb1
  go_upto_if 18 with (fail)
  go_cut [0] (fun v wc => ∃ l : List Int, ∃ A : Option Addr, v = .slice A l.length c0 ∧ l.length ≤ 200 ∧ Hid (∀ x ∈ l, x / 128 ≤ 72057594037927936) ∧ Hid (Rd w (.slice A l.length c0) l.length 1 (ints l)) ∧ Hid (Below w.heap.size w wc))
  case first =>
    by_cases h3 : 200 < l0.length
    · have e3 : (l0.take 200).length = 200 := by rw [List.length_take]; omega
      have E3 := Lib.hid e3
      clear e3
      go_wp2
      go_meet
      case rel =>
        have ht := HR0.out.take (m := 200) (by omega)
        rw [Nat.mul_one, ints_take] at ht
        exact ⟨l0.take 200, A0, by rw [E3.out], by have := E3.out; omega, Lib.hid (fun x hx => HBD.out x (List.mem_of_mem_take hx)), Lib.hid (by rw [E3.out]; exact ht), B1⟩
    · go_wp2
      go_meet
      case rel => exact ⟨l0, A0, rfl, by omega, HBD, HR0, B1⟩
  case rest =>
    obtain ⟨l, A, rfl, hl, HBL, HR, B2⟩ := hcut
    obtain ⟨wb, rfl⟩ : ∃ wb : World, wb = wc := ⟨_, rfl⟩
    clear B1 HR0 HBD
    have hm : max 0 (min (l.length : Int) 2048) = (l.length : Int) := by omega
    have HM := Lib.hid hm
    clear hm
    go_wp2_with fail
    refine (new_any l.length l.length HM.out _).mono ?_
    rintro e w3 ⟨g, v, rfl, hs3, hb3⟩
    have S3 := Lib.hid (hs3.lower (B' := w.heap.size) B2.out.size)
    have B3 := Lib.hid (B2.out.trans (hb3.mono B2.out.size))
    clear hs3 hb3
    go_wp2_with fail
    go_loopw [8] (fun i wr => ∃ k : Nat, k ≤ l.length ∧ i = .int .i64 k ∧ Hid (M wr w.heap.size g v (l.take k ++ List.replicate (l.length - k) 0)) ∧ Hid (Below w.heap.size w wr)) (fun i _ => l.length - (intOf i).toNat)
    case atStart => exact ⟨0, Nat.zero_le _, rfl, Lib.hid (by simpa using S3.out), B3⟩
    case round =>
      obtain ⟨k, hk, rfl, HK, HB⟩ := hrel
      by_cases hlt : k < l.length
      · obtain ⟨ad, rfl, x0⟩ := rd_at (HR.out.below HB.out) k hlt
        have i1 : (0 : Int) ≤ (k : Int) := Int.natCast_nonneg _
        have i2 : (k : Int) < (l.length : Int) := by omega
        have HN := Lib.hid (set_next l k hlt)
        go_wp2_with fail
        refine (store_yes w.heap.size g v _ k l[k] _ HK.out (by simp; omega)).mono ?_
        rintro e w4 ⟨rfl, hs4, hf4⟩
        rw [HN.out] at hs4
        have S4 := Lib.hid hs4
        have B4 := Lib.hid (HB.out.trans (HK.out.below hf4 HB.out.size))
        clear hs4 hf4
        go_wp2
        go_roundw
        case rel => exact ⟨k + 1, by omega, by go_num, S4, B4⟩
        case measure => simp [intOf]; omega
      · obtain rfl : k = l.length := by omega
        have S5 : Hid (M wr w.heap.size g v l) := Lib.hid (by have h := HK.out; simpa using h)
        obtain ⟨wo, rfl⟩ : ∃ wo : World, wo = wr := ⟨_, rfl⟩
        clear HK hk hlt
        by_cases hin : 0 ≤ a ∧ a < l.length
        · obtain ⟨a, rfl⟩ := Int.eq_ofNat_of_zero_le hin.1
          have ha : a < l.length := by omega
          obtain ⟨ad, rfl, x0⟩ := rd_at (HR.out.below HB.out) a ha
          obtain ⟨x, hx⟩ : ∃ x, l[a] = x := ⟨_, rfl⟩
          rw [hx] at x0
          have HX : Hid (l[a]? = some x) := Lib.hid (by rw [List.getElem?_eq_getElem ha, hx])
          have a0 : (0 : Int) ≤ (a : Int) := Int.natCast_nonneg _
          have a1 : (a : Int) < (l.length : Int) := by omega
          clear hx hin
          have hc : x < 0 ∨ (0 ≤ x ∧ 140737488355328 ≤ x) ∨ ((0 ≤ x ∧ x < 140737488355328) ∧ (l.length : Int) - a ≤ x % 128) ∨ ((0 ≤ x ∧ x < 140737488355328) ∧ x % 128 < (l.length : Int) - a ∧ i < 0) ∨ ((0 ≤ x ∧ x < 140737488355328) ∧ x % 128 < (l.length : Int) - a ∧ 0 ≤ i ∧ x % 128 ≤ i) ∨ ((0 ≤ x ∧ x < 140737488355328) ∧ x % 128 < (l.length : Int) - a ∧ 0 ≤ i ∧ i < x % 128) := by omega
          have HBare : Hid (¬ (Word x ∧ x % 128 < (l.length : Int) - a) → Bare l a) := Lib.hid (fun h => ⟨HBL.out, fun k y hk hy hw hf => by
            have : k = a := by omega
            subst this
            rw [HX.out] at hy
            injection hy with hy
            subst hy
            exact h ⟨hw, hf⟩⟩)
          rcases hc with h1 | ⟨h1, h2⟩ | ⟨⟨h1, h2⟩, h3⟩ | ⟨⟨h1, h2⟩, h3, h4⟩ | ⟨⟨h1, h2⟩, h3, h4, h5⟩ | ⟨⟨h1, h2⟩, h3, h4, h5⟩
          all_goals
            (try (have NB : Hid (Bare l a) := Lib.hid (HBare.out (by unfold Word; omega))))
            (try (have YW : Hid (Word x) := Lib.hid (by unfold Word; omega)))
            (try (have YF : Hid (x % 128 < (l.length : Int) - a) := Lib.hid (by omega)))
            (try (have YO : Hid (i < 0 ∨ x % 128 ≤ i) := Lib.hid (by omega)))
            (try (have YI : Hid (0 ≤ i ∧ i < x % 128) := Lib.hid ⟨by omega, by omega⟩))
            go_wp2_with (first
              | (go_at_call 11; refine (read_no w.heap.size g v l a _ (S5.out.no (by repeat (first | exact Fr.refl _ _ | apply Fr.drewN | apply Fr.drew | apply Fr.alloc))) NB.out).mono ?_; rintro e wl ⟨rfl, nl, rfl⟩)
              | (go_at_call 11; refine (read_yes w.heap.size g v l a x _ (S5.out.no (by repeat (first | exact Fr.refl _ _ | apply Fr.drewN | apply Fr.drew | apply Fr.alloc))) HX.out YW.out YF.out).mono ?_; rintro e wl ⟨rfl, nl, rfl⟩)
              | (go_at_call 12; refine (field_no w.heap.size g v l a i _ (S5.out.no (by repeat (first | exact Fr.refl _ _ | apply Fr.drewN | apply Fr.drew | apply Fr.alloc))) NB.out).mono ?_; rintro e wl ⟨rfl, nl, rfl⟩)
              | (go_at_call 12; refine (field_out w.heap.size g v l a x i _ (S5.out.no (by repeat (first | exact Fr.refl _ _ | apply Fr.drewN | apply Fr.drew | apply Fr.alloc))) HX.out YW.out YF.out YO.out).mono ?_; rintro e wl ⟨rfl, nl, rfl⟩)
              | (go_at_call 12; refine (field_yes w.heap.size g v l a x i _ (S5.out.no (by repeat (first | exact Fr.refl _ _ | apply Fr.drewN | apply Fr.drew | apply Fr.alloc))) HX.out YW.out YF.out YI.out.1 YI.out.2).mono ?_; rintro e wl ⟨rfl, nl, rfl⟩))
            go_ret
            exact ⟨(by first | rfl | (show Ending.returned (.bool (!decide (i < x % 128))) = _; rw [decide_eq_false (by omega)]; rfl)), ((Fr.of_below HB.out No).trans (S' := No) (by repeat (first | exact Fr.refl _ _ | apply Fr.drewN | apply Fr.drew | apply Fr.alloc)) (fun i (h : No i) => h.elim)).below (Nat.le_refl _) (fun _ h => h.elim)⟩
        · have NB : Hid (Bare l a) := Lib.hid ⟨HBL.out, fun k y hk hy _ _ => hin (by have := (List.getElem?_eq_some_iff.1 hy).1; omega)⟩
          have hc : a < 0 ∨ (0 ≤ a ∧ (l.length : Int) ≤ a) := by omega
          clear hin
          rcases hc with h1 | ⟨h1, h2⟩
          all_goals
            go_wp2_with (first
              | (go_at_call 11; refine (read_no w.heap.size g v l a _ (S5.out.no (by repeat (first | exact Fr.refl _ _ | apply Fr.drewN | apply Fr.drew | apply Fr.alloc))) NB.out).mono ?_; rintro e wl ⟨rfl, nl, rfl⟩)
              | (go_at_call 12; refine (field_no w.heap.size g v l a i _ (S5.out.no (by repeat (first | exact Fr.refl _ _ | apply Fr.drewN | apply Fr.drew | apply Fr.alloc))) NB.out).mono ?_; rintro e wl ⟨rfl, nl, rfl⟩))
            go_ret
            exact ⟨(by first | rfl | (show Ending.returned (.bool (!decide (i < x % 128))) = _; rw [decide_eq_false (by omega)]; rfl)), ((Fr.of_below HB.out No).trans (S' := No) (by repeat (first | exact Fr.refl _ _ | apply Fr.drewN | apply Fr.drew | apply Fr.alloc)) (fun i (h : No i) => h.elim)).below (Nat.le_refl _) (fun _ h => h.elim)⟩

end Go.Proofs.Ytedonindffogpaa.HeadLaw
