/- Proved: what the laws of package scutagelaw18 first ask answers true; and the law ShadeOnce over any arguments. -/
import Derived.Test.YtoipjmhfeggdeaaShade3
import Derived.Test.YtoipjmhfeggdeaaBitLaw
namespace Go.Proofs.Ytoipjmhfeggdeaa.ShadeOnce
open Go.RowKit Go.Proofs.Ytoipjmhfeggdeaa.H Go.Proofs.Ytoipjmhfeggdeaa.Nums Go.Proofs.Ytoipjmhfeggdeaa.BitPure Go.Proofs.Ytoipjmhfeggdeaa.Shade
set_option linter.unusedVariables false

def a1 : List Nat := Bitmap.addW 2048 Bitmap.w0 9

set_option maxRecDepth 100000 in
theorem facts : Bitmap.addOk 2048 Bitmap.w0 9 = true ∧ shL [] 4 Bitmap.w0 9 = [] ++ [(9, 0)] ∧ shO [] 4 false Bitmap.w0 9 = false ∧ Bitmap.addOk 2048 a1 9 = false ∧ (elems a1).length = 1 ∧ Bitmap.hasI 2048 a1 9 = true := by
  refine ⟨by decide +kernel, by decide +kernel, by decide +kernel, by decide +kernel, by decide +kernel, by decide +kernel⟩

attribute [local irreducible] elems from_ nxt elemsN

theorem sh_none {l : List (Int × Int)} {room : Int} {over : Bool} {ws : List Nat} {i : Int} (h : Bitmap.addOk 2048 ws i = false) : shL l room ws i = l ∧ shO l room over ws i = over ∧ Bitmap.addW 2048 ws i = ws := by
  unfold shL shO Bitmap.addW
  rw [h]
  exact ⟨rfl, rfl, rfl⟩

set_option maxRecDepth 100000 in
set_option maxHeartbeats 12800000 in
theorem alive_any (w : World) : Calls Try.prog 4 #[] w (Same w (.bool true)) := by
  have HF := Lib.hid facts
  go_enter Try.func4, Try.ntmps4
  go_wp2_with fail
  with_reducible refine (new_any 4 4 (by decide) w).mono ?_
  rintro x1 w1 ⟨gg, P, v1, rfl, hg1, hb1⟩
  have G1 := Lib.hid hg1
  have B1 := Lib.hid hb1
  clear hg1 hb1
  go_wp2_with fail
  with_reducible refine (shade_any w.heap.size gg P v1 [] 4 false Bitmap.w0 9 _ G1.out).mono ?_
  rintro x2 w2 ⟨rfl, v2, hg2, _, hf2⟩
  rw [HF.out.1]
  rw [HF.out.2.1, HF.out.2.2.1] at hg2
  have G2 : Hid (G w2 w.heap.size gg P v2 ([] ++ [(9, 0)]) 4 false a1) := Lib.hid hg2
  have B2 := Lib.hid (B1.out.trans (G1.out.below hf2 B1.out.size))
  clear hg2 hf2
  go_wp2_with fail
  with_reducible refine (shade_any w.heap.size gg P v2 ([] ++ [(9, 0)]) 4 false a1 9 _ G2.out).mono ?_
  rintro x3 w3 ⟨rfl, v3, hg3, _, hf3⟩
  rw [HF.out.2.2.2.1]
  rw [(sh_none (l := [] ++ [(9, 0)]) (room := 4) (over := false) HF.out.2.2.2.1).1, (sh_none (l := [] ++ [(9, 0)]) (room := 4) (over := false) HF.out.2.2.2.1).2.1, (sh_none (l := [] ++ [(9, 0)]) (room := 4) (over := false) HF.out.2.2.2.1).2.2] at hg3
  have G3 := Lib.hid hg3
  have B3 := Lib.hid (B2.out.trans (G2.out.below hf3 B2.out.size))
  clear hg3 hf3
  go_wp2_with fail
  with_reducible refine (next_some w.heap.size gg P v3 [] 9 0 4 false a1 _ G3.out).mono ?_
  rintro x4 w4 ⟨rfl, v4, hg4, _, hf4⟩
  have G4 := Lib.hid hg4
  have B4 := Lib.hid (B3.out.trans (G3.out.below hf4 B3.out.size))
  clear hg4 hf4
  go_wp2_with fail
  have F5 := Lib.hid ((Fr.refl No w4).alloc (.cells #[.int .i64 9, .int .i64 0] 31))
  have X5 := Lib.hid (heap_alloc_new w4 (.cells #[.int .i64 9, .int .i64 0] 31))
  generalize w4.alloc (.cells #[.int .i64 9, .int .i64 0] 31) = w5 at F5 X5 ⊢
  have B5 := Lib.hid (B4.out.trans (F5.out.below B4.out.size (fun _ h => h.elim)))
  have G5 := Lib.hid (G4.out.no F5.out)
  with_reducible refine (is_any w.heap.size gg P v4 [] 4 false a1 9 _ G5.out).mono ?_
  rintro x6 w6 ⟨rfl, n6, hw6⟩
  rw [HF.out.2.2.2.2.2]
  have F6 := Lib.hid (show Fr No w5 w6 from Bitmap.drewN_fr (Fr.refl No w5) hw6)
  clear hw6
  go_wp2_with fail
  with_reducible refine (count_any w.heap.size gg P v4 [] 4 false a1 _ (G5.out.no F6.out)).mono ?_
  rintro x7 w7 ⟨rfl, n7, hw7⟩
  rw [HF.out.2.2.2.2.1]
  have F7 := Lib.hid (show Fr No w5 w7 from Bitmap.drewN_fr F6.out hw7)
  clear hw7
  have X7 := Lib.hid (F7.out.blk X5.out (fun h => h))
  have y0 : w7.cell? ⟨w4.heap.size, 0, none⟩ = some (.int .i64 9) := cell_of X7.out 0
  have y1 : w7.cell? ⟨w4.heap.size, 1, none⟩ = some (.int .i64 0) := cell_of X7.out 1
  go_wp2_with fail
  with_reducible refine (waiting_any w.heap.size gg P v4 [] 4 false a1 _ (G5.out.no F7.out)).mono ?_
  rintro x8 w8 ⟨rfl, hb8⟩
  have F8 := Lib.hid (show Fr No w5 w8 from F7.out.then_below hb8)
  clear hb8
  go_wp2_with fail
  with_reducible refine (gover_any w.heap.size gg P v4 [] 4 false a1 _ (G5.out.no F8.out)).mono ?_
  rintro x9 w9 ⟨rfl, hb9⟩
  have F9 := Lib.hid (show Fr No w5 w9 from F8.out.then_below hb9)
  clear hb9
  go_wp2_with fail
  go_ret
  exact ⟨rfl, B5.out.trans (F9.out.below B5.out.size (fun _ h => h.elim))⟩

/-! ### the walk -/

theorem addOk_has {ws : List Nat} {i : Int} (h : Bitmap.addOk 2048 ws i = true) : 0 ≤ i ∧ i < 2048 ∧ Bitmap.hasI 2048 ws i = false := by
  unfold Bitmap.addOk at h
  simp at h
  refine ⟨h.1.1, h.1.2, ?_⟩
  unfold Bitmap.hasI
  simp [h.2]

theorem has_after {w : World} {B g : Nat} {ws : List Nat} (hs : Bm w B g 2048 ws) {i : Int} (h : Bitmap.addOk 2048 ws i = true) : Bitmap.hasI 2048 (Bitmap.addW 2048 ws i) i = true := by
  unfold Bitmap.addW
  rw [if_pos h]
  unfold Bitmap.addOk at h
  simp at h
  unfold Bitmap.hasI
  rw [has_add ws i.toNat i.toNat (by rw [hs.ok.len]; omega)]
  simp [h.1.1, h.1.2]

theorem len_after {w : World} {B g : Nat} {ws : List Nat} (hs : Bm w B g 2048 ws) {i : Int} (h : Bitmap.addOk 2048 ws i = true) : (elems (Bitmap.addW 2048 ws i)).length = (elems ws).length + 1 := by
  rw [← BitLaw.with_law hs i h, Rising.rising_length, List.length_append]
  · rfl
  · have hni : i ∉ elems ws := fun hm => by
      have h1 := BitLaw.in_eq hs i
      rw [decide_eq_true hm, (addOk_has h).2.2] at h1
      exact Bool.noConfusion h1
    have hnd : (elems ws).Nodup := (elems_sorted ws).imp (fun hab => by omega)
    rw [List.nodup_append]
    exact ⟨hnd, by simp, fun a ha b hb => by rw [List.mem_singleton] at hb; subst hb; intro e; subst e; exact hni ha⟩

/-- what was shaded m times, with room for r -/
structure Shaded (w : World) (B gg : Nat) (P : Pl) (v : Value) (l : List (Int × Int)) (r : Int) (over : Bool) (ws : List Nat) (m : Nat) : Prop where
  g : G w B gg P v l r over ws
  cnt : (elems ws).length = m
  len : (l.length : Int) = min (m : Int) r
  ov : over = decide (r < (m : Int))

theorem shaded_more {w w' : World} {B gg : Nat} {P : Pl} {v v' : Value} {l : List (Int × Int)} {r : Int} {over : Bool} {ws : List Nat} {m : Nat} (h : Shaded w B gg P v l r over ws m) {i : Int} (ha : Bitmap.addOk 2048 ws i = true)
    (hg : G w' B gg P v' (shL l r ws i) r (shO l r over ws i) (Bitmap.addW 2048 ws i)) : Shaded w' B gg P v' (shL l r ws i) r (shO l r over ws i) (Bitmap.addW 2048 ws i) (m + 1) := by
  refine ⟨hg, by rw [len_after h.g.set ha, h.cnt], ?_, ?_⟩
  · have h1 := h.len
    unfold shL pushL
    rw [if_pos ha]
    split
    · rw [List.length_append]; simp; omega
    · omega
  · have h1 := h.len
    have h2 := h.ov
    unfold shO pushO
    rw [if_pos ha, h2]
    by_cases hm : r < (m : Int)
    · rw [decide_eq_true hm, decide_eq_true (show r < ((m + 1 : Nat) : Int) by omega)]; rfl
    · rw [decide_eq_false hm]
      by_cases hm2 : (l.length : Int) < r
      · rw [decide_eq_true hm2, decide_eq_false (show ¬ r < ((m + 1 : Nat) : Int) by omega)]; rfl
      · rw [decide_eq_false hm2, decide_eq_true (show r < ((m + 1 : Nat) : Int) by omega)]; rfl

set_option maxRecDepth 100000 in
set_option maxHeartbeats 25600000 in
theorem once_less (n : Int) (A : Option Addr) (q c : Nat) (l : List Int) (hq : q = l.length) (h80q : q ≤ 80) (w : World) (hr : Rd w (.slice A q c) q 1 (ints l)) (hc : q ≤ c) :
    Calls Try.prog 3 #[.int .i64 n, .slice A q c] w (Same w (.bool true)) := by
  obtain ⟨ms, hms⟩ : ∃ ms, ms = l := ⟨_, rfl⟩
  have hml : ms.length = q := by rw [hms, hq]
  have hrm : Rd w (.slice A q c) q 1 (ints ms) := by rw [hms]; exact hr
  clear hms
  have HML : Hid (ms.length = q) := Lib.hid hml
  have HRM := Lib.hid hrm
  obtain ⟨r, hrn⟩ : ∃ r : Nat, max 1 (min n 256) = (r : Int) := ⟨(max 1 (min n 256)).toNat, by omega⟩
  have r1 : (1 : Int) ≤ (r : Int) := by omega
  have r2 : (r : Int) ≤ 256 := by omega
  have HRN := Lib.hid hrn
  clear hr hq hml hrm hrn
  go_enter Try.func3, Try.ntmps3
  go_wp2_with fail
  with_reducible refine (alive_any _).mono ?_
  rintro x1 w1 ⟨rfl, hb1⟩
  have B1 := Lib.hid hb1
  clear hb1
  go_wp2_with fail
  with_reducible refine (new_any n r HRN.out _).mono ?_
  rintro x3 w3 ⟨gg, P, v3, rfl, hg3, hb3⟩
  have BL := Lib.hid (show w.heap.size ≤ w1.heap.size from B1.out.size)
  have B3 := Lib.hid (B1.out.trans (hb3.mono B1.out.size))
  obtain ⟨BB, hBB⟩ : ∃ BB, BB = w1.heap.size := ⟨_, rfl⟩
  rw [← hBB] at hg3 BL
  have BB3 := Lib.hid (show BB ≤ w3.heap.size by rw [hBB]; exact hb3.size)
  have S3 : Hid (Shaded w3 BB gg P v3 [] r false Bitmap.w0 0) := Lib.hid ⟨hg3, by rw [Bitmap.w0_elems]; rfl, by simp; omega, by symm; exact decide_eq_false (by omega)⟩
  clear hg3 hb3 hBB
  go_wp2_with fail
  go_loopw [6, 7, 8, 9] (fun nn v was did wr => ∃ k m : Nat, k ≤ q ∧ m ≤ k ∧ v = .int .i64 k ∧ nn = .int .i64 m ∧ Hid (∃ v l over ws, Shaded wr BB gg P v l r over ws m ∧ Below w.heap.size w wr ∧ BB ≤ wr.heap.size)) (fun _ v _ _ _ => q - (intOf v).toNat)
  case atStart => exact ⟨0, 0, Nat.zero_le _, Nat.zero_le _, rfl, rfl, Lib.hid ⟨v3, [], false, Bitmap.w0, S3.out, B3.out, BB3.out⟩⟩
  case round =>
    obtain ⟨k, m, hk, hmk, rfl, rfl, HQ⟩ := hrel
    obtain ⟨v, l, over, ws, hS, hB, hZ⟩ := HQ.out
    have T1 := Lib.hid hS
    have BR := Lib.hid hB
    have BZ := Lib.hid hZ
    have i1 : (0 : Int) ≤ (k : Int) := Int.natCast_nonneg _
    have i0 : (0 : Int) ≤ (m : Int) := Int.natCast_nonneg _
    clear HQ hS hB hZ
    by_cases hlt : k < q
    · have hlm : k < ms.length := by rw [HML.out]; exact hlt
      obtain ⟨ad, rfl, x0a⟩ := rd_at (HRM.out.below BR.out) k hlm
      obtain ⟨y, x0⟩ : ∃ y, wr.cell? (ad.add k) = some (.int .i64 y) := ⟨_, x0a⟩
      have X0 := Lib.hid x0
      have hadw : (ad.add k).block < w.heap.size := by
        obtain ⟨ad', he, xw⟩ := rd_at HRM.out k hlm
        injection he with he
        subst he
        exact World.block_lt_of_cell? w _ xw
      have HADW := Lib.hid hadw
      have HLT := Lib.hid hlt
      have HMK := Lib.hid hmk
      have i2 : (k : Int) < (q : Int) := by omega
      have i3 : (m : Int) ≤ 80 := by omega
      have h80 : (k : Int) ≤ 80 := by omega
      clear x0a hlm hlt hadw hmk
      go_wp2_with fail
      with_reducible refine (is_any BB gg P v l r over ws y _ T1.out.g).mono ?_
      rintro xa wa ⟨rfl, na, hwa⟩
      have FA := Lib.hid (show Fr No wr wa from Bitmap.drewN_fr (Fr.refl No wr) hwa)
      have xa := FA.out.cell X0.out (fun h => h)
      clear hwa x0
      go_wp2_with fail
      with_reducible refine (shade_any BB gg P v l r over ws y _ (T1.out.g.no FA.out)).mono ?_
      rintro xb wb ⟨rfl, v2, hg2, hv2, hf2⟩
      have xb : wb.cell? (ad.add k) = some (.int .i64 y) := hf2.cell xa (fun h => by have h1 := HADW.out; have h2 := BL.out; have h3 := (T1.out.g.lt _ (.inr (.inr h))).1; omega)
      have XB := Lib.hid xb
      have G2 := Lib.hid hg2
      have BR2 := Lib.hid (BR.out.trans ((FA.out.below BR.out.size (fun _ h => h.elim)).trans (((T1.out.g.no FA.out).below hf2 (by have := FA.out.size; have := BZ.out; omega)).mono BL.out)))
      have BZ2 := Lib.hid (show BB ≤ wb.heap.size by have := FA.out.size; have := hf2.size; have := BZ.out; omega)
      clear hg2 hv2 hf2 xa
      cases hadd : Bitmap.addOk 2048 ws y with
      | true =>
        obtain ⟨y1, y2, hH⟩ := addOk_has hadd
        have HA := Lib.hid hadd
        have HI := Lib.hid (has_after T1.out.g.set hadd)
        have SM := Lib.hid (shaded_more T1.out hadd G2.out)
        have g1 : decide (0 ≤ y) = true := by simp; omega
        have g2 : decide (y < 2048) = true := by simp; omega
        rw [hH]
        clear hadd hH y1 y2
        go_wp2_with fail
        with_reducible refine (is_any BB gg P v2 (shL l r ws y) r (shO l r over ws y) (Bitmap.addW 2048 ws y) y _ G2.out).mono ?_
        rintro xc wc ⟨rfl, nc, hwc⟩
        rw [HI.out]
        have FC := Lib.hid (show Fr No wb wc from Bitmap.drewN_fr (Fr.refl No wb) hwc)
        clear hwc
        go_wp2_with fail
        go_roundw
        case rel => exact ⟨k + 1, m + 1, HLT.out, by have := HMK.out; omega, by go_num, by go_num, Lib.hid ⟨v2, _, _, _, ⟨SM.out.g.no FC.out, SM.out.cnt, SM.out.len, SM.out.ov⟩, BR2.out.trans (FC.out.below BR2.out.size (fun _ h => h.elim)), by have := FC.out.size; have := BZ2.out; omega⟩⟩
        case measure => have := HLT.out; simp [intOf]; omega
      | false =>
        have HN := Lib.hid (sh_none (l := l) (room := r) (over := over) hadd)
        have G3 : Hid (G wb BB gg P v2 l r over ws) := Lib.hid (by have h := G2.out; rw [HN.out.1, HN.out.2.1, HN.out.2.2] at h; exact h)
        have CLOSE : Hid (∃ v l over ws, Shaded wb BB gg P v l r over ws m ∧ Below w.heap.size w wb ∧ BB ≤ wb.heap.size) := Lib.hid ⟨v2, l, over, ws, ⟨G3.out, T1.out.cnt, T1.out.len, T1.out.ov⟩, BR2.out, BZ2.out⟩
        clear G2
        cases hH : Bitmap.hasI 2048 ws y with
        | true =>
          clear hH hadd
          go_wp2_with fail
          go_roundw
          case rel => exact ⟨k + 1, m, HLT.out, by have := HMK.out; omega, by go_num, rfl, CLOSE⟩
          case measure => have := HLT.out; simp [intOf]; omega
        | false =>
          by_cases y1 : y < 0
          · have g1 : decide (0 ≤ y) = false := by simp; omega
            clear hH hadd y1
            go_wp2_with fail
            go_roundw
            case rel => exact ⟨k + 1, m, HLT.out, by have := HMK.out; omega, by go_num, rfl, CLOSE⟩
            case measure => have := HLT.out; simp [intOf]; omega
          · have y2 : 2048 ≤ y := by
              rcases Int.lt_or_le y 2048 with h | h
              · unfold Bitmap.addOk at hadd
                unfold Bitmap.hasI at hH
                rw [decide_eq_true (show 0 ≤ y by omega), decide_eq_true (show y < ((2048 : Nat) : Int) from h)] at hadd hH
                rw [Bool.true_and, Bool.true_and] at hH
                rw [hH] at hadd
                exact Bool.noConfusion hadd
              · exact h
            have g1 : decide (0 ≤ y) = true := by simp; omega
            have g2 : decide (y < 2048) = false := by simp; omega
            clear hH hadd y1 y2
            go_wp2_with fail
            go_roundw
            case rel => exact ⟨k + 1, m, HLT.out, by have := HMK.out; omega, by go_num, rfl, CLOSE⟩
            case measure => have := HLT.out; simp [intOf]; omega
    · obtain rfl : k = q := by omega
      clear hlt
      go_wp2_with fail
      with_reducible refine (BitLaw.near_any n 1 256 _ HRN.out (by omega) _).mono ?_
      rintro xa wa ⟨rfl, na, hwa⟩
      have FA := Lib.hid (show Fr No wr wa from Bitmap.drewN_fr (Fr.refl No wr) hwa)
      clear hwa
      go_wp2_with fail
      with_reducible refine (count_any BB gg P v l r over ws _ (T1.out.g.no FA.out)).mono ?_
      rintro xb wb ⟨rfl, nb, hwb⟩
      rw [T1.out.cnt]
      have FB := Lib.hid (show Fr No wr wb from Bitmap.drewN_fr FA.out hwb)
      have gm : ((m : Int) == (m : Int)) = true := by simp
      clear hwb
      go_wp2_with fail
      with_reducible refine (waiting_any BB gg P v l r over ws _ (T1.out.g.no FB.out)).mono ?_
      rintro xc wc ⟨rfl, hbc⟩
      have FC := Lib.hid (show Fr No wr wc from FB.out.then_below hbc)
      have HLEN := Lib.hid T1.out.len
      have HOV := Lib.hid T1.out.ov
      clear hbc
      by_cases hmr : (m : Int) ≤ (r : Int)
      · rw [show (l.length : Int) = (m : Int) by have := HLEN.out; omega]
        have HO : Hid (over = false) := Lib.hid (by rw [HOV.out]; exact decide_eq_false (by omega))
        have gx : ((m : Int) == (m : Int)) = true := by simp
        have gd : decide ((r : Int) < (m : Int)) = false := by simp; omega
        have hz := hmr
        go_wp2_with fail
        with_reducible refine (gover_any BB gg P v l r over ws _ (T1.out.g.no FC.out)).mono ?_
        rintro xd wd ⟨rfl, hbd⟩
        rw [HO.out]
        have FD := Lib.hid (show Fr No wr wd from FC.out.then_below hbd)
        clear hbd
        go_wp2_with fail
        go_ret
        refine ⟨?_, BR.out.trans (FD.out.below BR.out.size (fun _ h => h.elim))⟩
        show Ending.returned (.bool _) = Ending.returned (.bool true)
        congr 2
        first | rfl | (simp; omega)
      · have hmr2 : (r : Int) < (m : Int) := by omega
        rw [show (l.length : Int) = (r : Int) by have := HLEN.out; omega]
        have HO : Hid (over = true) := Lib.hid (by rw [HOV.out]; exact decide_eq_true (by omega))
        have gx : ((r : Int) == (r : Int)) = true := by simp
        have gd : decide ((r : Int) < (m : Int)) = true := by simp; omega
        clear hmr
        go_wp2_with fail
        with_reducible refine (gover_any BB gg P v l r over ws _ (T1.out.g.no FC.out)).mono ?_
        rintro xd wd ⟨rfl, hbd⟩
        rw [HO.out]
        have FD := Lib.hid (show Fr No wr wd from FC.out.then_below hbd)
        clear hbd
        go_wp2_with fail
        go_ret
        exact ⟨by first | rfl | (show Ending.returned (.bool (!decide (r < m))) = _; rw [GD.out]; rfl) | (show Ending.returned (.bool (decide (r < m))) = _; rw [GD.out]), BR.out.trans (FD.out.below BR.out.size (fun _ h => h.elim))⟩

set_option maxRecDepth 100000 in
set_option maxHeartbeats 25600000 in
theorem once_more (n : Int) (A : Option Addr) (q c : Nat) (l : List Int) (hq : q = l.length) (h80q : 80 < q) (w : World) (hr : Rd w (.slice A q c) q 1 (ints l)) (hc : q ≤ c) :
    Calls Try.prog 3 #[.int .i64 n, .slice A q c] w (Same w (.bool true)) := by
  obtain ⟨ms, hms⟩ : ∃ ms, ms = l.take 80 := ⟨_, rfl⟩
  have hml : ms.length = 80 := by rw [hms, List.length_take]; omega
  have hrm : Rd w (.slice A 80 c) 80 1 (ints ms) := by
    have h := hr.take (m := 80) (by omega)
    rw [Nat.mul_one, ints_take] at h
    rw [hms]; exact h
  have h80c : 80 ≤ c := by omega
  have gq : decide ((80 : Int) < (q : Int)) = true := by simp; omega
  clear hms
  have HML : Hid (ms.length = 80) := Lib.hid hml
  have HRM := Lib.hid hrm
  obtain ⟨r, hrn⟩ : ∃ r : Nat, max 1 (min n 256) = (r : Int) := ⟨(max 1 (min n 256)).toNat, by omega⟩
  have r1 : (1 : Int) ≤ (r : Int) := by omega
  have r2 : (r : Int) ≤ 256 := by omega
  have HRN := Lib.hid hrn
  clear hr hq hml hrm hrn
  go_enter Try.func3, Try.ntmps3
  go_wp2_with fail
  with_reducible refine (alive_any _).mono ?_
  rintro x1 w1 ⟨rfl, hb1⟩
  have B1 := Lib.hid hb1
  clear hb1
  go_wp2_with fail
  with_reducible refine (new_any n r HRN.out _).mono ?_
  rintro x3 w3 ⟨gg, P, v3, rfl, hg3, hb3⟩
  have BL := Lib.hid (show w.heap.size ≤ w1.heap.size from B1.out.size)
  have B3 := Lib.hid (B1.out.trans (hb3.mono B1.out.size))
  obtain ⟨BB, hBB⟩ : ∃ BB, BB = w1.heap.size := ⟨_, rfl⟩
  rw [← hBB] at hg3 BL
  have BB3 := Lib.hid (show BB ≤ w3.heap.size by rw [hBB]; exact hb3.size)
  have S3 : Hid (Shaded w3 BB gg P v3 [] r false Bitmap.w0 0) := Lib.hid ⟨hg3, by rw [Bitmap.w0_elems]; rfl, by simp; omega, by symm; exact decide_eq_false (by omega)⟩
  clear hg3 hb3 hBB
  go_wp2_with fail
  go_loopw [6, 7, 8, 9] (fun nn v was did wr => ∃ k m : Nat, k ≤ 80 ∧ m ≤ k ∧ v = .int .i64 k ∧ nn = .int .i64 m ∧ Hid (∃ v l over ws, Shaded wr BB gg P v l r over ws m ∧ Below w.heap.size w wr ∧ BB ≤ wr.heap.size)) (fun _ v _ _ _ => 80 - (intOf v).toNat)
  case atStart => exact ⟨0, 0, Nat.zero_le _, Nat.zero_le _, rfl, rfl, Lib.hid ⟨v3, [], false, Bitmap.w0, S3.out, B3.out, BB3.out⟩⟩
  case round =>
    obtain ⟨k, m, hk, hmk, rfl, rfl, HQ⟩ := hrel
    obtain ⟨v, l, over, ws, hS, hB, hZ⟩ := HQ.out
    have T1 := Lib.hid hS
    have BR := Lib.hid hB
    have BZ := Lib.hid hZ
    have i1 : (0 : Int) ≤ (k : Int) := Int.natCast_nonneg _
    have i0 : (0 : Int) ≤ (m : Int) := Int.natCast_nonneg _
    clear HQ hS hB hZ
    by_cases hlt : k < 80
    · have hlm : k < ms.length := by rw [HML.out]; exact hlt
      obtain ⟨ad, rfl, x0a⟩ := rd_at (HRM.out.below BR.out) k hlm
      obtain ⟨y, x0⟩ : ∃ y, wr.cell? (ad.add k) = some (.int .i64 y) := ⟨_, x0a⟩
      have X0 := Lib.hid x0
      have hadw : (ad.add k).block < w.heap.size := by
        obtain ⟨ad', he, xw⟩ := rd_at HRM.out k hlm
        injection he with he
        subst he
        exact World.block_lt_of_cell? w _ xw
      have HADW := Lib.hid hadw
      have HLT := Lib.hid hlt
      have HMK := Lib.hid hmk
      have i2 : (k : Int) < (80 : Int) := by omega
      have i3 : (m : Int) ≤ 80 := by omega
      have h80 : (k : Int) ≤ 80 := by omega
      clear x0a hlm hlt hadw hmk
      go_wp2_with fail
      with_reducible refine (is_any BB gg P v l r over ws y _ T1.out.g).mono ?_
      rintro xa wa ⟨rfl, na, hwa⟩
      have FA := Lib.hid (show Fr No wr wa from Bitmap.drewN_fr (Fr.refl No wr) hwa)
      have xa := FA.out.cell X0.out (fun h => h)
      clear hwa x0
      go_wp2_with fail
      with_reducible refine (shade_any BB gg P v l r over ws y _ (T1.out.g.no FA.out)).mono ?_
      rintro xb wb ⟨rfl, v2, hg2, hv2, hf2⟩
      have xb : wb.cell? (ad.add k) = some (.int .i64 y) := hf2.cell xa (fun h => by have h1 := HADW.out; have h2 := BL.out; have h3 := (T1.out.g.lt _ (.inr (.inr h))).1; omega)
      have XB := Lib.hid xb
      have G2 := Lib.hid hg2
      have BR2 := Lib.hid (BR.out.trans ((FA.out.below BR.out.size (fun _ h => h.elim)).trans (((T1.out.g.no FA.out).below hf2 (by have := FA.out.size; have := BZ.out; omega)).mono BL.out)))
      have BZ2 := Lib.hid (show BB ≤ wb.heap.size by have := FA.out.size; have := hf2.size; have := BZ.out; omega)
      clear hg2 hv2 hf2 xa
      cases hadd : Bitmap.addOk 2048 ws y with
      | true =>
        obtain ⟨y1, y2, hH⟩ := addOk_has hadd
        have HA := Lib.hid hadd
        have HI := Lib.hid (has_after T1.out.g.set hadd)
        have SM := Lib.hid (shaded_more T1.out hadd G2.out)
        have g1 : decide (0 ≤ y) = true := by simp; omega
        have g2 : decide (y < 2048) = true := by simp; omega
        rw [hH]
        clear hadd hH y1 y2
        go_wp2_with fail
        with_reducible refine (is_any BB gg P v2 (shL l r ws y) r (shO l r over ws y) (Bitmap.addW 2048 ws y) y _ G2.out).mono ?_
        rintro xc wc ⟨rfl, nc, hwc⟩
        rw [HI.out]
        have FC := Lib.hid (show Fr No wb wc from Bitmap.drewN_fr (Fr.refl No wb) hwc)
        clear hwc
        go_wp2_with fail
        go_roundw
        case rel => exact ⟨k + 1, m + 1, HLT.out, by have := HMK.out; omega, by go_num, by go_num, Lib.hid ⟨v2, _, _, _, ⟨SM.out.g.no FC.out, SM.out.cnt, SM.out.len, SM.out.ov⟩, BR2.out.trans (FC.out.below BR2.out.size (fun _ h => h.elim)), by have := FC.out.size; have := BZ2.out; omega⟩⟩
        case measure => have := HLT.out; simp [intOf]; omega
      | false =>
        have HN := Lib.hid (sh_none (l := l) (room := r) (over := over) hadd)
        have G3 : Hid (G wb BB gg P v2 l r over ws) := Lib.hid (by have h := G2.out; rw [HN.out.1, HN.out.2.1, HN.out.2.2] at h; exact h)
        have CLOSE : Hid (∃ v l over ws, Shaded wb BB gg P v l r over ws m ∧ Below w.heap.size w wb ∧ BB ≤ wb.heap.size) := Lib.hid ⟨v2, l, over, ws, ⟨G3.out, T1.out.cnt, T1.out.len, T1.out.ov⟩, BR2.out, BZ2.out⟩
        clear G2
        cases hH : Bitmap.hasI 2048 ws y with
        | true =>
          clear hH hadd
          go_wp2_with fail
          go_roundw
          case rel => exact ⟨k + 1, m, HLT.out, by have := HMK.out; omega, by go_num, rfl, CLOSE⟩
          case measure => have := HLT.out; simp [intOf]; omega
        | false =>
          by_cases y1 : y < 0
          · have g1 : decide (0 ≤ y) = false := by simp; omega
            clear hH hadd y1
            go_wp2_with fail
            go_roundw
            case rel => exact ⟨k + 1, m, HLT.out, by have := HMK.out; omega, by go_num, rfl, CLOSE⟩
            case measure => have := HLT.out; simp [intOf]; omega
          · have y2 : 2048 ≤ y := by
              rcases Int.lt_or_le y 2048 with h | h
              · unfold Bitmap.addOk at hadd
                unfold Bitmap.hasI at hH
                rw [decide_eq_true (show 0 ≤ y by omega), decide_eq_true (show y < ((2048 : Nat) : Int) from h)] at hadd hH
                rw [Bool.true_and, Bool.true_and] at hH
                rw [hH] at hadd
                exact Bool.noConfusion hadd
              · exact h
            have g1 : decide (0 ≤ y) = true := by simp; omega
            have g2 : decide (y < 2048) = false := by simp; omega
            clear hH hadd y1 y2
            go_wp2_with fail
            go_roundw
            case rel => exact ⟨k + 1, m, HLT.out, by have := HMK.out; omega, by go_num, rfl, CLOSE⟩
            case measure => have := HLT.out; simp [intOf]; omega
    · obtain rfl : k = 80 := by omega
      clear hlt
      go_wp2_with fail
      with_reducible refine (BitLaw.near_any n 1 256 _ HRN.out (by omega) _).mono ?_
      rintro xa wa ⟨rfl, na, hwa⟩
      have FA := Lib.hid (show Fr No wr wa from Bitmap.drewN_fr (Fr.refl No wr) hwa)
      clear hwa
      go_wp2_with fail
      with_reducible refine (count_any BB gg P v l r over ws _ (T1.out.g.no FA.out)).mono ?_
      rintro xb wb ⟨rfl, nb, hwb⟩
      rw [T1.out.cnt]
      have FB := Lib.hid (show Fr No wr wb from Bitmap.drewN_fr FA.out hwb)
      have gm : ((m : Int) == (m : Int)) = true := by simp
      clear hwb
      go_wp2_with fail
      with_reducible refine (waiting_any BB gg P v l r over ws _ (T1.out.g.no FB.out)).mono ?_
      rintro xc wc ⟨rfl, hbc⟩
      have FC := Lib.hid (show Fr No wr wc from FB.out.then_below hbc)
      have HLEN := Lib.hid T1.out.len
      have HOV := Lib.hid T1.out.ov
      clear hbc
      by_cases hmr : (m : Int) ≤ (r : Int)
      · rw [show (l.length : Int) = (m : Int) by have := HLEN.out; omega]
        have HO : Hid (over = false) := Lib.hid (by rw [HOV.out]; exact decide_eq_false (by omega))
        have gx : ((m : Int) == (m : Int)) = true := by simp
        have gd : decide ((r : Int) < (m : Int)) = false := by simp; omega
        have hz := hmr
        go_wp2_with fail
        with_reducible refine (gover_any BB gg P v l r over ws _ (T1.out.g.no FC.out)).mono ?_
        rintro xd wd ⟨rfl, hbd⟩
        rw [HO.out]
        have FD := Lib.hid (show Fr No wr wd from FC.out.then_below hbd)
        clear hbd
        go_wp2_with fail
        go_ret
        refine ⟨?_, BR.out.trans (FD.out.below BR.out.size (fun _ h => h.elim))⟩
        show Ending.returned (.bool _) = Ending.returned (.bool true)
        congr 2
        first | rfl | (simp; omega)
      · have hmr2 : (r : Int) < (m : Int) := by omega
        rw [show (l.length : Int) = (r : Int) by have := HLEN.out; omega]
        have HO : Hid (over = true) := Lib.hid (by rw [HOV.out]; exact decide_eq_true (by omega))
        have gx : ((r : Int) == (r : Int)) = true := by simp
        have gd : decide ((r : Int) < (m : Int)) = true := by simp; omega
        clear hmr
        go_wp2_with fail
        with_reducible refine (gover_any BB gg P v l r over ws _ (T1.out.g.no FC.out)).mono ?_
        rintro xd wd ⟨rfl, hbd⟩
        rw [HO.out]
        have FD := Lib.hid (show Fr No wr wd from FC.out.then_below hbd)
        clear hbd
        go_wp2_with fail
        go_ret
        exact ⟨by first | rfl | (show Ending.returned (.bool (!decide (r < m))) = _; rw [GD.out]; rfl) | (show Ending.returned (.bool (decide (r < m))) = _; rw [GD.out]), BR.out.trans (FD.out.below BR.out.size (fun _ h => h.elim))⟩

theorem once_any (n : Int) (v : Value) (l : List Int) (w : World) (hr : Rd w v l.length 1 (ints l)) :
    Calls Try.prog 3 #[.int .i64 n, v] w (Same w (.bool true)) := by
  obtain ⟨A, c, rfl, hc⟩ := hr.slice
  by_cases h : l.length ≤ 80
  · exact once_less n A _ c l rfl h w hr hc
  · exact once_more n A _ c l rfl (by omega) w hr hc

end Go.Proofs.Ytoipjmhfeggdeaa.ShadeOnce
