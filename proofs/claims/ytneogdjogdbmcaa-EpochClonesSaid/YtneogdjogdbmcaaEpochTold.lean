/- Proved: all that package scutagelaw15 asks of a registry is told as in its book. -/
import Derived.Test.YtneogdjogdbmcaaEpochLaw
namespace Go.Proofs.Ytneogdjogdbmcaa.EpochTold
open Go.RowKit Go.Proofs.Ytneogdjogdbmcaa.H Go.Proofs.Ytneogdjogdbmcaa.Nums Go.Proofs.Ytneogdjogdbmcaa.Epoch Go.Proofs.Ytneogdjogdbmcaa.EpochLaw

theorem pick_dead (p : Mb → Bool) (l : List Mb) (k : Nat) (h : k < l.length) (hl : liveB l (k : Int) = false) : pick p l (k + 1) = pick p l k := by
  rw [liveB_in l k h] at hl
  rw [pick_succ p l k h, hl]
  simp
theorem pick_all (l : List Mb) (k : Nat) (h : k < l.length) (hl : liveB l (k : Int) = true) : pick allP l (k + 1) = pick allP l k ++ [(k : Int)] := by
  rw [liveB_in l k h] at hl
  rw [pick_succ allP l k h, hl]
  simp [allP]
theorem pick_beh (e : Int) (l : List Mb) (k : Nat) (h : k < l.length) (hl : liveB l (k : Int) = true) : pick (behP e) l (k + 1) = pick (behP e) l k ++ (if ofI l (k : Int) < e then [(k : Int)] else []) := by
  rw [ofI_in l k h hl]
  rw [liveB_in l k h] at hl
  rw [pick_succ (behP e) l k h, hl]
  simp [behP]

theorem app_step {w1 wr X w7 : World} {p q : List Int} {o o7 oq : Value} {ob : Obj} (hb : Below w1.heap.size w1 wr) (h5 : Own wr w1.heap.size o p) (h6 : Own wr w1.heap.size oq q) (hs : ∀ j, o.ownBlock = some j → oq.ownBlock ≠ some j)
    (hX : Fr No wr X) (h2 : (X.alloc ob).grownBy w7 o.ownBlock) (h3 : o7.ownBlock = o.ownBlock ∨ o7.ownBlock = some (X.alloc ob).heap.size) :
    Own w7 w1.heap.size oq q ∧ (∀ j, o7.ownBlock = some j → oq.ownBlock ≠ some j) ∧ Below w1.heap.size w1 w7 ∧ Fr (fun j => o.ownBlock = some j) wr w7 := by
  have hF : Fr (fun j => o.ownBlock = some j) wr w7 := ((hX.mono (fun _ h => h.elim)).alloc ob).grown h2 (fun j hj => .inl hj)
  refine ⟨h6.fr hF (fun j hj h => hs j h hj), ?_, hb.trans (hF.below hb.size (fun j hj => (h5.lt j hj).1)), hF⟩
  intro j hj hq
  rcases h3 with h | h
  · exact hs j (by rw [← h]; exact hj) hq
  · rw [h] at hj
    injection hj with hj
    have h7 := (h6.lt j hq).2
    have h8 := hX.size
    simp at hj
    omega

set_option maxRecDepth 100000 in
set_option maxHeartbeats 12800000 in
theorem told_any (B g : Nat) (v bv : Value) (l : List Mb) (e : Int) (w : World) (hs : Both w B g v bv l e) :
    Calls Try.prog 23 #[.pointer (some ⟨g, 0, none⟩), .agg #[bv, .int .i64 e]] w (Same w (.bool true)) := by
  obtain ⟨A, c, rfl, _⟩ := hs.row.slice
  obtain ⟨n0, hn0⟩ : ∃ n0, n0 = l.length := ⟨_, rfl⟩
  have HS := Lib.hid hs
  have hl8 := hs.reg.len
  have hal := atL_length l
  rw [← hn0] at hl8 hal
  obtain ⟨xs, hxs⟩ : ∃ xs, xs = pick allP l n0 := ⟨_, rfl⟩
  obtain ⟨ys, hys⟩ : ∃ ys, ys = pick (behP e) l n0 := ⟨_, rfl⟩
  have HX := Lib.hid hxs
  have HY := Lib.hid hys
  have HN := Lib.hid hn0
  have hxl := pick_le allP l n0
  have hyl := pick_le (behP e) l n0
  rw [← hxs] at hxl
  rw [← hys] at hyl
  rw [hal]
  clear hs hxs hys hn0 hal
  go_enter Try.func23, Try.ntmps23
  have HB0 := Lib.hid (heap_alloc_new w (.cells #[.slice A n0 c, .int .i64 e] 26))
  have k1 : (w.alloc (.cells #[.slice A n0 c, .int .i64 e] 26)).cell? ⟨w.heap.size, 1, none⟩ = some (.int .i64 e) := cell_of HB0.out 1
  go_wp2_with fail
  clear k1
  have F0 := Lib.hid ((Fr.refl No w).alloc (.cells #[.slice A n0 c, .int .i64 e] 26))
  have hz1 : (w.alloc (.cells #[.slice A n0 c, .int .i64 e] 26)).heap.size = w.heap.size + 1 := by simp
  generalize w.alloc (.cells #[.slice A n0 c, .int .i64 e] 26) = w1 at HB0 F0 hz1 ⊢
  go_loopw [5, 6, 7, 8] (fun o5 o6 m i wr => ∃ k : Nat, k ≤ n0 ∧ i = .int .i64 k ∧ m = .int .i64 (leastI l e (pick allP l k)) ∧ Hid (Own wr w1.heap.size o5 (pick allP l k) ∧ Own wr w1.heap.size o6 (pick (behP e) l k) ∧ (∀ j, o5.ownBlock = some j → o6.ownBlock ≠ some j) ∧ Below w1.heap.size w1 wr)) (fun _ _ _ i _ => n0 - (intOf i).toNat)
  case atStart => exact ⟨0, Nat.zero_le _, rfl, rfl, Lib.hid ⟨Own.nil _ _, Own.nil _ _, fun j h => by simp [Value.ownBlock] at h, Below.refl _ _⟩⟩
  case round =>
    obtain ⟨k, hk, rfl, rfl, HQ⟩ := hrel
    rename_i o5 o6
    obtain ⟨p5, hp5⟩ : ∃ p5, p5 = pick allP l k := ⟨_, rfl⟩
    obtain ⟨p6, hp6⟩ : ∃ p6, p6 = pick (behP e) l k := ⟨_, rfl⟩
    rw [← hp5, ← hp6] at HQ
    obtain ⟨m, hm⟩ : ∃ m, m = leastI l e (pick allP l k) := ⟨_, rfl⟩
    rw [← hm]
    obtain ⟨A5, c5, rfl, _⟩ := HQ.out.1.slice
    obtain ⟨A6, c6, rfl, _⟩ := HQ.out.2.1.slice
    have FQ := Lib.hid (F0.out.then_below HQ.out.2.2.2)
    have HBr := Lib.hid (HQ.out.2.2.2.block w.heap.size (by omega) |>.trans HB0.out)
    have b0 : wr.cell? ⟨w.heap.size, 0, none⟩ = some (.slice A n0 c) := cell_of HBr.out 0
    have b1 : wr.cell? ⟨w.heap.size, 1, none⟩ = some (.int .i64 e) := cell_of HBr.out 1
    by_cases hlt : k < n0
    · have hkl : k < l.length := by rw [← HN.out]; exact hlt
      obtain ⟨ad, hA, x0⟩ := rd_at (HS.out.row.fr FQ.out (fun _ _ h => h)).rd k (by rw [atL_length]; exact hkl)
      rw [atL_at l k hkl] at x0
      subst hA
      have HL5 := Lib.hid (pick_le allP l k)
      have HL6 := Lib.hid (pick_le (behP e) l k)
      rw [← hp5] at HL5
      rw [← hp6] at HL6
      have HI := HS.out.inv.at0 k
      have HM := Lib.hid hm
      rw [← hp5] at HM
      have HLT := Lib.hid hlt
      have HKL := Lib.hid hkl
      have i1 : (0 : Int) ≤ (k : Int) := Int.natCast_nonneg _
      have i2 : (k : Int) < (n0 : Int) := by omega
      cases hlv : liveB l (k : Int) with
      | false =>
        rw [ofI_neg l _ hlv] at x0
        have P5 := Lib.hid (show pick allP l (k + 1) = p5 by rw [pick_dead _ l k hkl hlv, hp5])
        have P6 := Lib.hid (show pick (behP e) l (k + 1) = p6 by rw [pick_dead _ l k hkl hlv, hp6])
        clear hlt hlv hp5 hp6 hm HI HKL
        clear hkl
        go_wp2
        go_roundw
        case rel => exact ⟨k + 1, HLT.out, by go_num, by rw [HM.out, P5.out], Lib.hid (by rw [P5.out, P6.out]; exact HQ.out)⟩
        case measure => have := HLT.out; simp [intOf]; omega
      | true =>
        obtain ⟨hy0, hy1⟩ := HI hlv
        have HO := Lib.hid (show leastI l e (pick allP l (k + 1)) = min m (ofI l (k : Int)) by rw [pick_all l k hkl hlv, leastI_snoc, hm])
        have P5 := Lib.hid (show pick allP l (k + 1) = p5 ++ [(k : Int)] by rw [pick_all l k hkl hlv, hp5])
        have P6 := Lib.hid (show pick (behP e) l (k + 1) = p6 ++ (if ofI l (k : Int) < e then [(k : Int)] else []) by rw [pick_beh e l k hkl hlv, hp6])
        obtain ⟨y, hye⟩ : ∃ y, y = ofI l (k : Int) := ⟨_, rfl⟩
        rw [← hye] at x0 hy0 hy1 HO P6
        have HYE := Lib.hid hye.symm
        clear hye
        have g1 : decide (y < 0) = false := by simp; omega
        clear hlt hlv hp5 hp6 hm HI hy0 HKL
        clear hkl
        have HY1 := Lib.hid hy1
        clear hy1
        go_wp2_with (at_builtin; refine app_one (l := p5) (y := (k : Int)) rfl (.tmp 24) (.tmp 26) rfl rfl (HQ.out.1.fr (Fr.alloc (Fr.refl No _) _) (fun _ _ h => h)) rfl rfl (heap_alloc_new _ _) (by decide) (by have := HL5.out; omega) (by have := HQ.out.2.2.2.size; simp; omega) ?_; intro v7 w7 h1 h2 h3; refine Hid.out ?_)
        obtain ⟨z6, zs, zb, zf⟩ := app_step (o7 := v7) HQ.out.2.2.2 HQ.out.1 HQ.out.2.1 HQ.out.2.2.1 (Fr.refl No wr) h2 h3
        obtain ⟨p7, hp7⟩ : ∃ p7, p7 = p5 ++ [(k : Int)] := ⟨_, rfl⟩
        rw [← hp7] at h1
        replace P5 := Lib.hid (show pick allP l (k + 1) = p7 by rw [P5.out, hp7])
        clear hp7
        obtain ⟨A7, c7, rfl, _⟩ := h1.slice
        have FQ7 := Lib.hid (F0.out.then_below zb)
        obtain ⟨ad7, hA7, x7a⟩ := rd_at (HS.out.row.fr FQ7.out (fun _ _ h => h)).rd k (by rw [atL_length, ← HN.out]; exact HLT.out)
        injection hA7 with hA7
        subst hA7
        have x7 : w7.cell? (ad.add k) = some (.int .i64 y) := by rw [x7a, atL_at l k (by rw [← HN.out]; exact HLT.out), HYE.out]
        have HB7 := Lib.hid (zb.block w.heap.size (by omega) |>.trans HB0.out)
        have d0 : w7.cell? ⟨w.heap.size, 0, none⟩ = some (.slice (some ad) n0 c) := cell_of HB7.out 0
        have d1 : w7.cell? ⟨w.heap.size, 1, none⟩ = some (.int .i64 e) := cell_of HB7.out 1
        have O7 := Lib.hid h1
        have Z6 := Lib.hid z6
        have ZS := Lib.hid zs
        have ZB := Lib.hid zb
        clear h1 h2 h3 z6 zs zb zf b0 b1 x0 x7a
        refine Lib.hid ?_
        by_cases hye : y < e
        · have P6 := Lib.hid (show pick (behP e) l (k + 1) = p6 ++ [(k : Int)] by rw [P6.out, if_pos hye])
          go_wp2
          all_goals
            go_quiet (fail)
            go_wp2_with (at_builtin; refine app_one (l := p6) (y := (k : Int)) rfl (.tmp 43) (.tmp 45) rfl rfl (Z6.out.fr (Fr.alloc (Fr.drewN (Fr.refl No w7) _) _) (fun _ _ h => h)) rfl rfl (heap_alloc_new _ _) (by decide) (by have := HL6.out; omega) (by have := ZB.out.size; simp; omega) ?_; intro v9 w9 h1 h2 h3; obtain ⟨p9, hp9⟩ : ∃ p9, p9 = p6 ++ [(k : Int)] := ⟨_, rfl⟩; rw [← hp9] at h1 P6; obtain ⟨A9, c9, rfl, _⟩ := h1.slice; have H1 := Lib.hid h1; have H2 := Lib.hid (app_step (o7 := Value.slice A9 p9.length c9) ZB.out Z6.out O7.out (fun j hj hq => ZS.out j hq hj) (Fr.drewN (Fr.refl No w7) _) h2 h3); clear h1 h2 h3 hp9)
            go_roundw
            case rel => exact ⟨k + 1, HLT.out, by go_num, by rw [HO.out]; congr 1; omega, Lib.hid (by rw [P5.out, P6.out]; exact ⟨H2.out.1, H1.out, fun j hj hq => H2.out.2.1 j hq hj, H2.out.2.2.1⟩)⟩
            case measure => have := HLT.out; simp [intOf]; omega
        · have P6 := Lib.hid (show pick (behP e) l (k + 1) = p6 by rw [P6.out, if_neg hye, List.append_nil])
          have hye : e ≤ y := by omega
          go_wp2
          all_goals
            go_quiet (fail)
            go_wp2
            go_roundw
            case rel => exact ⟨k + 1, HLT.out, by go_num, by rw [HO.out]; congr 1; omega, Lib.hid (by rw [P5.out, P6.out]; exact ⟨O7.out.fr (Fr.drewN (Fr.refl No w7) _) (fun _ _ h => h), Z6.out.fr (Fr.drewN (Fr.refl No w7) _) (fun _ _ h => h), ZS.out, (Fr.drewN (Fr.of_below ZB.out No) _).below (Nat.le_refl _) (fun _ h => h.elim)⟩)⟩
            case measure => have := HLT.out; simp [intOf]; omega
    · obtain rfl : k = n0 := by omega
      have HK := Lib.hid (fun (W : World) (hW : Fr No wr W) => (show W.cell? ⟨w.heap.size, 1, none⟩ = some (.int .i64 e) from hW.cell b1 (fun h => h)))
      have h5l : p5.length ≤ 8 := by rw [hp5]; have := pick_le allP l k; omega
      have h6l : p6.length ≤ 8 := by rw [hp6]; have := pick_le (behP e) l k; omega
      have HL : Hid (leastI l e (pick allP l l.length) = m) := Lib.hid (by rw [hm, HN.out])
      have HA : Hid (∀ W, Reg W B g v l e → Calls Try.prog 15 #[.pointer (some ⟨g, 0, none⟩)] W (NumsPost p5 W)) := Lib.hid (fun W hW => by rw [hp5, HN.out]; exact all_any B g v l e W hW)
      have HBh : Hid (∀ W, Reg W B g v l e → Calls Try.prog 21 #[.pointer (some ⟨g, 0, none⟩)] W (NumsPost p6 W)) := Lib.hid (fun W hW => by rw [hp6, HN.out]; exact behind_any B g v l e W hW)
      have HG : Hid (∀ W, Reg W B g v l e → Calls Try.prog 19 #[.pointer (some ⟨g, 0, none⟩)] W (Same W (.bool (((p6.length : Int)) == 0)))) := Lib.hid (fun W hW => by rw [hp6, HN.out]; exact agreed_any B g v l e W hW)
      have HLs : Hid (∀ W, Reg W B g v l e → Calls Try.prog 18 #[.pointer (some ⟨g, 0, none⟩)] W (Same W (.int .i64 m))) := Lib.hid (fun W hW => by have h := least_any B g v l e W hW; rw [HL.out] at h; exact h)
      have O5 := Lib.hid (fun (W : World) (hW : Fr No wr W) => (HQ.out.1.fr hW (fun _ _ h => h)).rd)
      have O6 := Lib.hid (fun (W : World) (hW : Fr No wr W) => (HQ.out.2.1.fr hW (fun _ _ h => h)).rd)
      have RG := Lib.hid (fun (W : World) (hW : Fr No w W) => HS.out.reg.no hW)
      clear hlt hk hp5 hp6 hm hxl hyl HX HY HBr
      go_wp2_with fail
      go_region_held3 (fun w' => w'.cell? ⟨w.heap.size, 1, none⟩ = some (.int .i64 e)) (exact HK.out _ (by repeat (first | exact GD.out | exact GC.out | exact GB.out | exact GA.out | exact Fr.refl _ _ | apply Fr.drewN | apply Fr.drew))) (first
        | (go_at_call 17; refine (epoch_any B g v l e _ (RG.out _ (by repeat (first | exact FD.out | exact FC.out | exact FB.out | exact FA.out | exact FQ.out | apply Fr.drewN | apply Fr.drew)))).mono ?_; rintro x1 w2 ⟨rfl, n1, rfl⟩)
        | (go_at_call 15; refine (HA.out _ (RG.out _ (by repeat (first | exact FD.out | exact FC.out | exact FB.out | exact FA.out | exact FQ.out | apply Fr.drewN | apply Fr.drew)))).mono ?_; rintro x1 w2 hx; obtain ⟨A2, c2, rfl, o2, h2⟩ := hx.slice; have FA := Lib.hid (Fr.then_below (show Fr No w _ from (by repeat (first | exact FD.out | exact FC.out | exact FB.out | exact FA.out | exact FQ.out | apply Fr.drewN | apply Fr.drew))) h2); have GA := Lib.hid (Fr.then_below (show Fr No wr _ from (by repeat (first | exact GD.out | exact GC.out | exact GB.out | exact GA.out | exact Fr.refl _ _ | apply Fr.drewN | apply Fr.drew))) h2); have OA := Lib.hid o2; have z1 := HK.out w2 GA.out; clear hx o2 h2)
        | (go_at_call 25; refine (Nums.same_any A2 A5 p5.length p5.length c2 c5 p5 rfl rfl _ (OA.out.fr (by repeat (first | exact Fr.refl _ _ | apply Fr.drewN | apply Fr.drew)) (fun _ _ h => h)).rd (O5.out _ (by repeat (first | exact GD.out | exact GC.out | exact GB.out | exact GA.out | exact Fr.refl _ _ | apply Fr.drewN | apply Fr.drew))) (by omega)).mono ?_; rintro x1 w3 ⟨rfl, n3, rfl⟩; clear OA)
        | (go_at_call 21; refine (HBh.out _ (RG.out _ (by repeat (first | exact FD.out | exact FC.out | exact FB.out | exact FA.out | exact FQ.out | apply Fr.drewN | apply Fr.drew)))).mono ?_; rintro x1 w4 hx; obtain ⟨A4, c4, rfl, o4, h4⟩ := hx.slice; have FB := Lib.hid (Fr.then_below (show Fr No w _ from (by repeat (first | exact FD.out | exact FC.out | exact FB.out | exact FA.out | exact FQ.out | apply Fr.drewN | apply Fr.drew))) h4); have GB := Lib.hid (Fr.then_below (show Fr No wr _ from (by repeat (first | exact GD.out | exact GC.out | exact GB.out | exact GA.out | exact Fr.refl _ _ | apply Fr.drewN | apply Fr.drew))) h4); have OB := Lib.hid o4; have z2 := HK.out w4 GB.out; clear hx o4 h4)
        | (go_at_call 25; refine (Nums.same_any A4 A6 p6.length p6.length c4 c6 p6 rfl rfl _ (OB.out.fr (by repeat (first | exact Fr.refl _ _ | apply Fr.drewN | apply Fr.drew)) (fun _ _ h => h)).rd (O6.out _ (by repeat (first | exact GD.out | exact GC.out | exact GB.out | exact GA.out | exact Fr.refl _ _ | apply Fr.drewN | apply Fr.drew))) (by omega)).mono ?_; rintro x1 w5 ⟨rfl, n5, rfl⟩; clear OB)
        | (go_at_call 19; refine (HG.out _ (RG.out _ (by repeat (first | exact FD.out | exact FC.out | exact FB.out | exact FA.out | exact FQ.out | apply Fr.drewN | apply Fr.drew)))).mono ?_; rintro x1 w6 ⟨rfl, h6⟩; have FC := Lib.hid (Fr.then_below (show Fr No w _ from (by repeat (first | exact FD.out | exact FC.out | exact FB.out | exact FA.out | exact FQ.out | apply Fr.drewN | apply Fr.drew))) h6); have GC := Lib.hid (Fr.then_below (show Fr No wr _ from (by repeat (first | exact GD.out | exact GC.out | exact GB.out | exact GA.out | exact Fr.refl _ _ | apply Fr.drewN | apply Fr.drew))) h6); have z3 := HK.out w6 GC.out; clear h6)
        | (go_at_call 18; refine (HLs.out _ (RG.out _ (by repeat (first | exact FD.out | exact FC.out | exact FB.out | exact FA.out | exact FQ.out | apply Fr.drewN | apply Fr.drew)))).mono ?_; rintro x1 w7 ⟨rfl, h7⟩; have FD := Lib.hid (Fr.then_below (show Fr No w _ from (by repeat (first | exact FD.out | exact FC.out | exact FB.out | exact FA.out | exact FQ.out | apply Fr.drewN | apply Fr.drew))) h7); have GD := Lib.hid (Fr.then_below (show Fr No wr _ from (by repeat (first | exact GD.out | exact GC.out | exact GB.out | exact GA.out | exact Fr.refl _ _ | apply Fr.drewN | apply Fr.drew))) h7); have z4 := HK.out w7 GD.out; clear h7))
      all_goals
        go_wp2
        go_ret
        exact ⟨rfl, FD.out.below (Nat.le_refl _) (fun _ h => h.elim)⟩

end Go.Proofs.Ytneogdjogdbmcaa.EpochTold
