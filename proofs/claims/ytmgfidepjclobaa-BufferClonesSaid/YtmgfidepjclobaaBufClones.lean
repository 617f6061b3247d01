/- Proved: the law BufferClones of package scutagelaw16 over any arguments. -/
import Derived.Test.YtmgfidepjclobaaBufRun
namespace Go.Proofs.Ytmgfidepjclobaa.BufClones
open Go.RowKit Go.Proofs.Ytmgfidepjclobaa.H Go.Proofs.Ytmgfidepjclobaa.Nums Go.Proofs.Ytmgfidepjclobaa.Buffer Go.Proofs.Ytmgfidepjclobaa.BufLaw Go.Proofs.Ytmgfidepjclobaa.BufStep Go.Proofs.Ytmgfidepjclobaa.BufRun
set_option linter.unusedVariables false

set_option maxHeartbeats 1600000 in
theorem empty_odd (g : Nat) (w : World) (hg : Odd w g) : Calls Try.prog 16 #[.pointer (some ⟨g, 0, none⟩)] w (Quiet w (.bool true)) := by
  have c0 : w.cell? ⟨g, 0, none⟩ = some (.bool false) := cell_of hg 0
  have c1 : w.cell? ⟨g, 1, none⟩ = some (.slice none 0 0) := cell_of hg 1
  have HI := Lib.hid (ifunc_any (.slice none 0 0) 0 [] w ⟨World.ownsRow_nil _ _ _ _, by simp⟩ (by simp))
  clear hg
  have HC : Hid (Calls Try.prog 26 #[.slice none 0 0, .func (.func 27) #[] #[]] w (Quiet w (.bool false))) := Lib.hid (by
    go_enter Try.func26, Try.ntmps26
    go_wp2_with fail
    with_reducible refine HI.out.mono ?_
    rintro e w' ⟨r, rfl, ⟨m, rfl⟩, hd⟩
    have HD := Lib.hid hd
    clear hd
    go_wp2_with fail
    go_ret
    exact ⟨by show Ending.returned (.bool (decide (0 ≤ r))) = _; rw [show decide (0 ≤ r) = false from HD.out], m, rfl⟩)
  clear HI
  go_enter Try.func16, Try.ntmps16
  go_wp2_with fail
  with_reducible refine HC.out.mono ?_
  rintro e w' ⟨rfl, n, rfl⟩
  go_wp2_with fail
  go_ret
  exact ⟨rfl, n, rfl⟩
theorem both_more {w : World} {B g : Nat} {v : Value} {L : List Ln} {vm : Value} {M : List Ln} {N N' : Nat} (h : Both w B g v L vm M N) (hN : N ≤ N') : Both w B g v L vm M N' :=
  ⟨h.buf, h.mem, h.sep, h.same, fun p hp => Nat.le_trans (h.tot p hp) hN⟩
theorem both_len8 {w : World} {B g : Nat} {v : Value} {L : List Ln} {vm : Value} {M : List Ln} {N : Nat} (h : Both w B g v L vm M N) : M.length ≤ 8 := by rw [h.len]; exact h.buf.len

set_option maxRecDepth 100000 in
set_option maxHeartbeats 25600000 in
theorem clones_any (n : Int) (va vc vd : Value) (la lc ld : List (Int × Int × Int)) (w : World) (ha : Rd w va la.length 3 (calls la)) (hc : Rd w vc lc.length 3 (calls lc)) (hd : Rd w vd ld.length 3 (calls ld)) :
    Calls Try.prog 5 #[.int .i64 n, va, vc, vd] w (Same w (.bool true)) := by
  obtain ⟨Aa, ca, rfl, hca⟩ := ha.slice
  obtain ⟨Ac, cc, rfl, hcc⟩ := hc.slice
  obtain ⟨Ad, cd, rfl, hcd⟩ := hd.slice
  have CA := Lib.hid hca
  have CC := Lib.hid hcc
  have CD := Lib.hid hcd
  have RA := Lib.hid ha
  have RC := Lib.hid hc
  have RD := Lib.hid hd
  obtain ⟨r, hrm⟩ : ∃ r : Nat, max 0 (min n 8) = (r : Int) := ⟨(max 0 (min n 8)).toNat, by omega⟩
  have hr8 : r ≤ 8 := by omega
  have HR8 := Lib.hid hr8
  have HRM := Lib.hid hrm
  have hmk := run_rows r hr8
  have HMC := Lib.hid (made_rows r)
  generalize madeCells (Value.slice none 0 0).cells (r * 1) = mc at hmk HMC
  have hnn : (0 : Int) ≤ (r : Int) := Int.natCast_nonneg _
  clear ha hc hd hca hcc hcd hrm
  go_enter Try.func5, Try.ntmps5
  go_wp2_with fail
  with_reducible refine (alive_any _).mono ?_
  rintro x1 w1 ⟨rfl, hb1⟩
  have B1 := Lib.hid hb1
  clear hb1
  go_wp2_with fail
  with_reducible refine (new_any n r HRM.out w1).mono ?_
  rintro x3 w3 ⟨g, v, L, rfl, hd3, hs3, hb3⟩
  have D3 := Lib.hid hd3
  have S3 : Hid (Bufs w3 w.heap.size g v L) := Lib.hid (hs3.lower B1.out.size)
  have B3 : Hid (Below w.heap.size w w3) := Lib.hid (B1.out.trans (hb3.mono B1.out.size))
  clear hd3 hs3 hb3
  go_upto_region 4 with (fail)
  go_cut [10, 11] (fun v10 v11 wc => ∃ A5 n5 c5 L5 M5, v10 = .slice A5 n5 c5 ∧ v11 = .bool true ∧ Hid (Both wc w.heap.size g v L5 (.slice A5 n5 c5) M5 60) ∧ Hid (Below w.heap.size w wc))
  case first => as_aux_lemma =>
    go_region_with ((first
      | (go_at_call 9; refine (near_any n 0 8 r HRM.out (by omega) _).mono ?_; rintro e wn ⟨rfl, nn, rfl⟩)
      | (go_at_call 10; refine (few_any Aa la.length ca _ CA.out).mono ?_; rintro x8 w8 ⟨rfl, hw8⟩; subst hw8)
      | (go_at_call 7; (refine (run_cut w.heap.size g 0 v _ L (List.replicate r none_) Aa ca la w ((w3.drewN (1 + nn)).alloc (.cells mc 32)) (made_both S3.out B3.out.size D3.out HR8.out HMC.out (heap_alloc_new (w3.drewN (1 + nn)) _) (by repeat (first | exact Fr.refl _ _ | apply Fr.drewN | apply Fr.drew | apply Fr.alloc))) (by have := B3.out.size; simp; omega) RA.out (fun W hW => below_via B3.out (by repeat (first | exact Fr.refl _ _ | apply Fr.drewN | apply Fr.drew | apply Fr.alloc)) hW) (by omega)).mono ?_); rintro x9 w9 ⟨vm9, L9, M9, rfl, hb9, hf9, _⟩; obtain ⟨A9, c9, rfl, _⟩ := own_slice hb9.mem.own; obtain ⟨n9, hn9⟩ : ∃ n9, n9 = M9.length := ⟨_, rfl⟩; rw [← hn9] at hb9 ⊢; clear hn9; have H9 := Lib.hid (both_more hb9 (show 0 + min 60 la.length ≤ 60 by omega)); have B9 : Hid (Below w.heap.size w w9) := Lib.hid (B3.out.trans (((((Fr.refl No w3).drewN (1 + nn)).alloc _).mono (fun _ h => h.elim)).trans hf9 (fun i hi => .inl hi) |>.below B3.out.size (fun k hk => (S3.out.foot_lt k hk).1))); clear hb9 hf9)))
    all_goals
      go_wp2
      go_meet
      case rel => exact ⟨A9, n9, c9, L9, M9, rfl, rfl, H9, B9⟩
  case rest =>
    obtain ⟨A5, n5, c5, L5, M5, rfl, rfl, H5, B5⟩ := hcut
    obtain ⟨w5, rfl⟩ : ∃ w5 : World, w5 = wc := ⟨_, rfl⟩
    clear hmk HMC S3 B3 D3 B1
    go_wp2_with fail
    with_reducible refine (clone_any' w.heap.size g v L5 (fun p hp => Nat.le_trans (H5.out.tot p hp) (by decide)) w5 H5.out.buf).mono ?_
    rintro x6 w6 ⟨g2, v2, L2, rfl, hd6, hs6, hb6⟩
    have F6 := Lib.hid (Fr.of_below hb6 No)
    have D6 := Lib.hid hd6
    have S6 := Lib.hid hs6
    have B6 := Lib.hid (B5.out.trans (F6.out.below B5.out.size (fun _ h => h.elim)))
    have H6 := Lib.hid (H5.out.no F6.out)
    have SEP : Hid (∀ k, Foot g v L5 k → ¬ Foot g2 v2 L2 k) := Lib.hid (fun k hk h => by have := (H5.out.buf.foot_lt k hk).2; have := (S6.out.foot_lt k h).1; omega)
    have SEM : Hid (∀ k, RFoot (.slice A5 n5 c5) M5 k → ¬ Foot g2 v2 L2 k) := Lib.hid (fun k hk h => by have := (H5.out.mem.lt k hk).2; have := (S6.out.foot_lt k h).1; omega)
    clear hd6 hs6 hb6
    go_wp2_with fail
    with_reducible refine (few_any Ac lc.length cc _ CC.out).mono ?_
    rintro x7 wf ⟨rfl, hwf⟩
    subst hwf
    go_wp2_with fail
    with_reducible refine (run_cut w.heap.size g 60 v _ L5 M5 Ac cc lc w _ H6.out B6.out.size RC.out (fun W hW => B6.out.trans hW) (by decide)).mono ?_
    rintro x8 w8 ⟨vm8, L8, M8, rfl, hb8, hf8, _⟩
    obtain ⟨A8, c8, rfl, _⟩ := own_slice hb8.mem.own
    obtain ⟨n8, hn8⟩ : ∃ n8, n8 = M8.length := ⟨_, rfl⟩
    have F8 := Lib.hid hf8
    have B8 := Lib.hid (B6.out.trans (H6.out.buf.below hf8 B6.out.size))
    have S8 : Hid (Bufs w8 w.heap.size g2 v2 L2) := Lib.hid ((S6.out.fr hf8 (fun k hk h => SEP.out k h hk)).lower B5.out.size)
    have H8 : Hid (Both w8 w.heap.size g2 v2 L2 (.slice A5 n5 c5) M5 60) := Lib.hid ⟨S8.out, H6.out.mem.fr hf8 H6.out.sep, SEM.out, H6.out.same.trans D6.out.symm, by rw [D6.out]; exact H6.out.tot⟩
    rw [← hn8]
    clear hb8 hf8 hn8 S6 F6 H6 S8
    go_wp2_with fail
    with_reducible refine (few_any Ad ld.length cd _ CD.out).mono ?_
    rintro x9 wf ⟨rfl, hwf⟩
    subst hwf
    go_wp2_with fail
    with_reducible refine (run_cut w.heap.size g2 60 v2 _ L2 M5 Ad cd ld w _ H8.out B8.out.size RD.out (fun W hW => B8.out.trans hW) (by decide)).mono ?_
    rintro x10 w10 ⟨vm10, L10, M10, rfl, hb10, hf10, _⟩
    obtain ⟨A10, c10, rfl, _⟩ := own_slice hb10.mem.own
    obtain ⟨m, hm⟩ : ∃ m, m = M10.length := ⟨_, rfl⟩
    have HM := Lib.hid hm
    have hm8 : m ≤ 8 := by rw [hm]; exact both_len8 hb10
    have HML : Hid ((dat L10).length = m) := Lib.hid (by rw [dat_length, ← hb10.len, hm])
    rw [← hm] at hb10 ⊢
    have H10 := Lib.hid (both_more hb10 (show 60 + min 60 ld.length ≤ 120 by omega))
    have B10 := Lib.hid (B8.out.trans (H8.out.buf.below hf10 B8.out.size))
    clear hb10 hf10 hm H8
    go_wp2_with fail
    go_loopw [17] (fun i wr => ∃ k : Nat, k ≤ m ∧ i = .int .i64 k ∧ ∃ Lk, Hid (dat Lk = clrD (dat L10) k) ∧ Hid (Bufs wr w.heap.size g2 v2 Lk) ∧ Hid (Buffer.Rows wr w.heap.size (.slice A10 m c10) M10) ∧ Hid (∀ j, RFoot (.slice A10 m c10) M10 j → ¬ Foot g2 v2 Lk j) ∧ Hid (Below w.heap.size w wr)) (fun i _ => m - (intOf i).toNat)
    case atStart => exact ⟨0, Nat.zero_le _, rfl, L10, Lib.hid (by simp [clrD]), Lib.hid H10.out.buf, Lib.hid H10.out.mem, Lib.hid H10.out.sep, B10⟩
    case round =>
      obtain ⟨k, hk, rfl, Lk, HL, HX, HR, HS, HW⟩ := hrel
      by_cases hlt : k < m
      · have hkM : k < M10.length := by rw [← HM.out]; exact hlt
        obtain ⟨x, hx⟩ : ∃ x, (dat L10)[k]? = some x := ⟨_, List.getElem?_eq_getElem (by rw [HML.out]; exact hlt)⟩
        have HC := Lib.hid (clr_take (dat L10) k x hx)
        have HXL : Hid (x.length ≤ 120) := Lib.hid (H10.out.tot x (List.mem_of_getElem? hx))
        have hxM : (M10[k]).2 = x := by
          have h1 : (dat M10)[k]? = some (M10[k]).2 := by unfold dat; simp [hkM]
          rw [H10.out.same, hx] at h1
          injection h1 with h1
          exact h1.symm
        have HLT := Lib.hid hlt
        have i1 : (0 : Int) ≤ (k : Int) := Int.natCast_nonneg _
        have i2 : (k : Int) < (m : Int) := by omega
        clear hx hlt
        go_wp2_with fail
        with_reducible refine (take_any w.heap.size g2 v2 Lk (k : Int) wr HX.out).mono ?_
        rintro e11 w11 ⟨u11, L11, rfl, ho, hd11, hb11, hf11, hm1, _⟩
        rw [HL.out, HC.out.2] at ho
        rw [HL.out, HC.out.1] at hd11
        have O11 := Lib.hid ho
        have D11 := Lib.hid hd11
        have X11 := Lib.hid hb11
        have R11 := Lib.hid (HR.out.fr hf11 HS.out)
        have S11 : Hid (∀ j, RFoot (.slice A10 m c10) M10 j → ¬ Foot g2 v2 L11 j) := Lib.hid (fun j hj h => HS.out j hj (hm1 j h))
        have W11 := Lib.hid (HW.out.trans (HX.out.below hf11 HW.out.size))
        obtain ⟨d, c', he, x0, _, _, _⟩ := R11.out.slot k hkM
        injection he with he hmid he3
        subst he he3
        clear hmid
        have hrow := R11.out.row _ (List.getElem_mem hkM)
        generalize M10[k] = p at x0 hrow hxM
        obtain ⟨pv, xs⟩ := p
        dsimp only at x0 hrow hxM
        subst hxM
        obtain ⟨A12, c12, rfl, _⟩ := hrow.slice
        obtain ⟨A11, c11, rfl, _⟩ := ho.slice
        obtain ⟨q, hq⟩ : ∃ q, q = xs.length := ⟨_, rfl⟩
        have HQ := Lib.hid hq
        have HRR : Hid (Rd w11 (.slice A12 q c12) q 1 (ints xs)) := Lib.hid (by rw [hq]; exact hrow.rd)
        have HRO : Hid (Rd w11 (.slice A11 q c11) q 1 (ints xs)) := Lib.hid (by rw [hq]; exact ho.rd)
        rw [← hq] at x0 ⊢
        clear hrow ho hd11 hb11 hf11 hm1 hq O11
        go_wp2_with fail
        with_reducible refine (same_any A11 A12 q q c11 c12 xs HQ.out HQ.out _ HRO.out HRR.out (by have := HXL.out; omega)).mono ?_
        rintro e13 w13 ⟨rfl, n13, hw13⟩
        have F13 := Lib.hid (drewN_fr (Fr.refl No w11) hw13)
        clear hw13 x0
        go_wp2_with fail
        go_roundw
        case rel => exact ⟨k + 1, HLT.out, by go_num, L11, D11, Lib.hid (X11.out.no F13.out), Lib.hid (R11.out.fr F13.out (fun _ _ h => h)), S11, Lib.hid (W11.out.trans (F13.out.below W11.out.size (fun _ h => h.elim)))⟩
        case measure => have := HLT.out; simp [intOf]; omega
      · obtain rfl : k = m := by omega
        have HE : Hid (emptyB (dat Lk) = true) := Lib.hid (by
          rw [HL.out, ← HML.out, clr_all]
          unfold emptyB
          rw [List.all_eq_true]
          intro p hp
          obtain rfl := List.eq_of_mem_replicate hp
          rfl)
        go_upto_region 16 with (fail)
        have od0 := heap_alloc_new wr (.cells #[.bool false, .slice none 0 0] 41)
        have fo := (Fr.refl No wr).alloc (.cells #[.bool false, .slice none 0 0] 41)
        obtain ⟨go, hgo⟩ : ∃ go, go = wr.heap.size := ⟨_, rfl⟩
        rw [← hgo] at od0 ⊢
        generalize wr.alloc (.cells #[.bool false, .slice none 0 0] 41) = wo at od0 fo ⊢
        have OD : Hid (Odd wo go) := Lib.hid od0
        have FO := Lib.hid fo
        clear od0 fo hgo
        go_wp2_with fail
        with_reducible refine (empty_any w.heap.size g2 v2 Lk _ (HX.out.no FO.out)).mono ?_
        rintro e1 y1 ⟨rfl, k1, hy1⟩
        rw [HE.out]
        have G1 := Lib.hid (drewN_fr (Fr.refl No wo) hy1)
        clear hy1
        go_wp2_with fail
        with_reducible refine (put_nil _).mono ?_
        rintro e2 y2 ⟨rfl, k2, hy2⟩
        have G2 := Lib.hid (drewN_fr G1.out hy2)
        clear hy2
        go_wp2_with fail
        with_reducible refine (put_odd go _ (OD.out.fr G2.out)).mono ?_
        rintro e3 y3 ⟨rfl, k3, hy3⟩
        have G3 := Lib.hid (drewN_fr G2.out hy3)
        clear hy3
        go_wp2_with fail
        with_reducible refine (take_nil _).mono ?_
        rintro e4 y4 ⟨rfl, k4, hy4⟩
        have G4 := Lib.hid (drewN_fr G3.out hy4)
        clear hy4
        go_wp2_with fail
        with_reducible refine (len_nil _).mono ?_
        rintro e5 y5 ⟨rfl, k5, hy5⟩
        have G5 := Lib.hid (drewN_fr G4.out hy5)
        clear hy5
        go_wp2_with fail
        with_reducible refine (len_odd go _ (OD.out.fr G5.out)).mono ?_
        rintro e6 y6 ⟨rfl, k6, hy6⟩
        have G6 := Lib.hid (drewN_fr G5.out hy6)
        clear hy6
        go_wp2_with fail
        with_reducible refine (empty_nil _).mono ?_
        rintro e7 y7 ⟨rfl, k7, hy7⟩
        have G7 := Lib.hid (drewN_fr G6.out hy7)
        clear hy7
        go_wp2_with fail
        with_reducible refine (empty_odd go _ (OD.out.fr G7.out)).mono ?_
        rintro e8 y8 ⟨rfl, k8, hy8⟩
        have G8 := Lib.hid (drewN_fr G7.out hy8)
        clear hy8
        go_wp2_with fail
        with_reducible refine (clear_nil _).mono ?_
        rintro e9 y9 ⟨rfl, k9, hy9⟩
        have G9 := Lib.hid (drewN_fr G8.out hy9)
        clear hy9
        go_wp2_with fail
        with_reducible refine (clone_nil _).mono ?_
        rintro e10 y10 ⟨rfl, k10, hy10⟩
        have G10 := Lib.hid (drewN_fr G9.out hy10)
        clear hy10
        go_wp2_with fail
        with_reducible refine (clone_odd go _ (OD.out.fr G10.out)).mono ?_
        rintro e11 y11 ⟨rfl, k11, hy11⟩
        have G11 := Lib.hid (drewN_fr G10.out hy11)
        clear hy11
        go_wp2_with fail
        go_ret
        exact ⟨rfl, HW.out.trans ((FO.out.trans G11.out (fun i (h : No i) => h.elim)).below HW.out.size (fun _ h => h.elim))⟩

end Go.Proofs.Ytmgfidepjclobaa.BufClones
