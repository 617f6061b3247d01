/- Proved: the law PageClones of package scutagelaw09 over any arguments. -/
import Derived.Test.YtaegmlmibbppoaaPageNone
namespace Go.Proofs.Ytaegmlmibbppoaa.PageClones
open Go.RowKit Go.Proofs.Ytaegmlmibbppoaa.H Go.Proofs.Ytaegmlmibbppoaa.Nums Go.Proofs.Ytaegmlmibbppoaa.PagePure Go.Proofs.Ytaegmlmibbppoaa.Page Go.Proofs.Ytaegmlmibbppoaa.PageLaw Go.Proofs.Ytaegmlmibbppoaa.PageStep Go.Proofs.Ytaegmlmibbppoaa.PageRun
set_option linter.unusedVariables false

set_option maxRecDepth 100000 in
set_option maxHeartbeats 51200000 in
theorem clones_any (n : Int) (va vc vd : Value) (la lc ld : List (Int × Int)) (fa : Fits la) (fc : Fits lc) (fd : Fits ld) (w : World) (ha : Rd w va la.length 2 (calls la)) (hc : Rd w vc lc.length 2 (calls lc)) (hd : Rd w vd ld.length 2 (calls ld)) :
    Calls Try.prog 5 #[.int .i64 n, va, vc, vd] w (Same w (.bool true)) := by
  obtain ⟨Aa, ca, rfl, hca⟩ := ha.slice
  obtain ⟨Ac, cc, rfl, hcc⟩ := hc.slice
  obtain ⟨Ad, cd, rfl, hcd⟩ := hd.slice
  have CA := Lib.hid hca
  have CC := Lib.hid hcc
  have CD := Lib.hid hcd
  have RA := Lib.hid ha
  have RC := Lib.hid hc
  have RD := Lib.hid hd
  have FA := Lib.hid fa
  have FC := Lib.hid fc
  have FD := Lib.hid fd
  obtain ⟨r, hrm⟩ : ∃ r : Nat, max 0 (min n 64) = (r : Int) := ⟨(max 0 (min n 64)).toNat, by omega⟩
  have HRM := Lib.hid hrm
  clear ha hc hd hca hcc hcd hrm fa fc fd
  go_enter Try.func5, Try.ntmps5
  go_wp2_with fail
  with_reducible refine (alive_any _).mono ?_
  rintro x1 w1 ⟨rfl, hb1⟩
  have B1 := Lib.hid hb1
  clear hb1
  go_wp2_with fail
  with_reducible refine (new_any n r HRM.out w1).mono ?_
  rintro x2 w2 ⟨g, v, rfl, hs2, hb2⟩
  have S2 := Lib.hid hs2
  have B2 := Lib.hid hb2
  clear hs2 hb2
  go_wp2_with fail
  with_reducible refine (rnew_any n r HRM.out w2).mono ?_
  rintro x3 w3 ⟨vm, rfl, ho3, hb3⟩
  have P3 := Lib.hid (new_both B1.out S2.out B2.out ho3 hb3)
  obtain ⟨A3, c3, rfl, _⟩ := ho3.slice
  obtain ⟨q3, hq3⟩ : ∃ q3, q3 = (List.replicate r (0 : Int)).length := ⟨_, rfl⟩
  rw [← hq3] at P3 ⊢
  clear ho3 hb3 hq3
  go_wp2_with fail
  with_reducible refine (few_any Aa la.length ca _ CA.out).mono ?_
  rintro x4 w4 ⟨rfl, hw4⟩
  subst hw4
  go_wp2_with fail
  with_reducible refine (run_cut w.heap.size g v _ _ Aa ca la FA.out w _ P3.out.1 P3.out.2.size RA.out (fun W hW => P3.out.2.trans hW)).mono ?_
  rintro x5 w5 ⟨vm5, l5, rfl, hb5, hf5, _⟩
  have B5 := Lib.hid (P3.out.2.trans (P3.out.1.tab.below hf5 P3.out.2.size))
  obtain ⟨A5, c5, rfl, _⟩ := hb5.mem.slice
  obtain ⟨n5, hn5⟩ : ∃ n5, n5 = l5.length := ⟨_, rfl⟩
  rw [← hn5] at hb5 ⊢
  have H5 := Lib.hid hb5
  clear hb5 hf5 P3 S2 B2 B1 hn5
  go_wp2_with fail
  with_reducible refine (clone_any' w.heap.size g v l5 w5 H5.out.tab).mono ?_
  rintro x6 w6 ⟨g2, v2, rfl, hs6, hb6⟩
  have F6 := Lib.hid (Fr.of_below hb6 No)
  have S6 := Lib.hid hs6
  have B6 := Lib.hid (B5.out.trans (F6.out.below B5.out.size (fun _ h => h.elim)))
  have H6 := Lib.hid (H5.out.no F6.out)
  have SEP : Hid (∀ k, Foot g v k → ¬ Foot g2 v2 k) := Lib.hid (fun k hk h => by have := (H5.out.tab.foot_lt k hk).2; have := (S6.out.foot_lt k h).1; omega)
  have SEM : Hid (∀ k, (Value.slice A5 n5 c5).ownBlock = some k → ¬ Foot g2 v2 k) := Lib.hid (fun k hk h => by have := (H5.out.mem.lt k hk).2; have := (S6.out.foot_lt k h).1; omega)
  clear hs6 hb6
  go_wp2_with fail
  with_reducible refine (few_any Ac lc.length cc _ CC.out).mono ?_
  rintro x7 wf ⟨rfl, hwf⟩
  subst hwf
  go_wp2_with fail
  with_reducible refine (run_cut w.heap.size g v _ l5 Ac cc lc FC.out w _ H6.out B6.out.size RC.out (fun W hW => B6.out.trans hW)).mono ?_
  rintro x8 w8 ⟨vm8, l8, rfl, hb8, hf8, hq8⟩
  obtain ⟨A8, c8, rfl, _⟩ := hb8.mem.slice
  obtain ⟨n8, hn8⟩ : ∃ n8, n8 = l8.length := ⟨_, rfl⟩
  rw [← hn8] at hb8 hq8 ⊢
  have HN8 := Lib.hid hn8
  have F8 := Lib.hid hf8
  have B8 := Lib.hid (B6.out.trans (H6.out.tab.below hf8 B6.out.size))
  have S8 : Hid (T w8 w.heap.size g2 v2 l5) := Lib.hid ((S6.out.fr hf8 (fun k hk h => SEP.out k h hk)).lower B5.out.size)
  have H8 : Hid (Both w8 w.heap.size g2 v2 l5 (.slice A5 n5 c5)) := Lib.hid ⟨S8.out, H6.out.mem.fr hf8 H6.out.sep, SEM.out⟩
  have SE8 : Hid (∀ k, (Value.slice A8 n8 c8).ownBlock = some k → ¬ Foot g2 v2 k) := Lib.hid (fun k hk hf => by
    rcases hq8 k hk with h | h
    · exact SEM.out k h hf
    · have := (S6.out.foot_lt k hf).2; omega)
  have M8 := Lib.hid hb8
  clear hb8 hf8 hn8 hq8 F6 H6
  go_wp2_with fail
  with_reducible refine (few_any Ad ld.length cd _ CD.out).mono ?_
  rintro x9 wf ⟨rfl, hwf⟩
  subst hwf
  go_wp2_with fail
  with_reducible refine (run_cut w.heap.size g2 v2 _ l5 Ad cd ld FD.out w _ H8.out B8.out.size RD.out (fun W hW => B8.out.trans hW)).mono ?_
  rintro x10 w10 ⟨vm10, l10, rfl, hb10, hf10, _⟩
  obtain ⟨A10, c10, rfl, _⟩ := hb10.mem.slice
  obtain ⟨n10, hn10⟩ : ∃ n10, n10 = l10.length := ⟨_, rfl⟩
  rw [← hn10] at hb10 ⊢
  have HN10 := Lib.hid hn10
  have H10 := Lib.hid hb10
  have B10 := Lib.hid (B8.out.trans (H8.out.tab.below hf10 B8.out.size))
  have T10 : Hid (T w10 w.heap.size g v l8) := Lib.hid (M8.out.tab.fr hf10 SEP.out)
  have R10 : Hid (Rd w10 (.slice A8 n8 c8) n8 1 (ints l8)) := Lib.hid (by
    have h := (M8.out.mem.fr hf10 SE8.out).rd
    rw [← HN8.out] at h
    exact h)
  clear hb10 hf10 hn10 H8 S8
  have Q10 : Hid (Rd w10 (.slice A10 n10 c10) n10 1 (ints l10)) := Lib.hid (by
    have h := H10.out.mem.rd
    rw [← HN10.out] at h
    exact h)
  have L8 := Lib.hid T10.out.len
  have L10 := Lib.hid H10.out.tab.len
  go_upto_region 10 with (fail)
  have od0 := heap_alloc_new w10 (.cells #[.bool false, .slice none 0 0] 40)
  have fo := (Fr.refl No w10).alloc (.cells #[.bool false, .slice none 0 0] 40)
  obtain ⟨go, hgo⟩ : ∃ go, go = w10.heap.size := ⟨_, rfl⟩
  rw [← hgo] at od0 ⊢
  generalize w10.alloc (.cells #[.bool false, .slice none 0 0] 40) = y0 at od0 fo ⊢
  have OD : Hid (Odd y0 go) := Lib.hid od0
  have FO := Lib.hid fo
  have E0 := Lib.hid (Fr.refl No y0)
  clear od0 fo hgo
  go_wp2_with fail
  with_reducible refine (take_nobody none _ (Nobody.nil _)).mono ?_
  rintro e1 y1 ⟨rfl, hy1⟩
  have E1 := Lib.hid (E0.out.then_below hy1)
  clear hy1
  go_wp2_with fail
  with_reducible refine (take_nobody (some ⟨go, 0, none⟩) _ (Nobody.odd (OD.out.fr E1.out))).mono ?_
  rintro e2 y2 ⟨rfl, hy2⟩
  have E2 := Lib.hid (E1.out.then_below hy2)
  clear hy2
  go_wp2_with fail
  with_reducible refine (span_nobody none _ (Nobody.nil _)).mono ?_
  rintro e3 y3 ⟨rfl, hy3⟩
  have E3 := Lib.hid (E2.out.then_below hy3)
  clear hy3
  go_wp2_with fail
  with_reducible refine (span_nobody (some ⟨go, 0, none⟩) _ (Nobody.odd (OD.out.fr E3.out))).mono ?_
  rintro e4 y4 ⟨rfl, hy4⟩
  have E4 := Lib.hid (E3.out.then_below hy4)
  clear hy4
  go_wp2_with fail
  with_reducible refine (all_any w.heap.size g v l8 _ (T10.out.no (no_trans FO.out E4.out))).mono ?_
  rintro e5 y5 ⟨v5, rfl, ho5, hb5⟩
  obtain ⟨A5', c5', rfl, _⟩ := ho5.slice
  have E5 := Lib.hid (E4.out.then_below hb5)
  have O5' : Hid (Rd y5 (.slice A5' n8 c5') n8 1 (ints l8)) := Lib.hid (by have h := ho5.rd; rw [← HN8.out] at h; exact h)
  rw [← HN8.out]
  clear ho5 hb5
  go_wp2_with fail
  with_reducible refine (same_any A5' A8 n8 n8 c5' c8 l8 HN8.out HN8.out _ O5'.out (R10.out.below (no_below (no_trans FO.out E5.out))) (Nat.le_trans L8.out (by decide))).mono ?_
  rintro e6 y6 ⟨rfl, k6, hy6⟩
  have E6 := Lib.hid (drewN_fr E5.out hy6)
  clear hy6
  go_wp2_with fail
  with_reducible refine (all_any w.heap.size g2 v2 l10 _ (H10.out.tab.no (no_trans FO.out E6.out))).mono ?_
  rintro e7 y7 ⟨v7, rfl, ho7, hb7⟩
  obtain ⟨A7', c7', rfl, _⟩ := ho7.slice
  have E7 := Lib.hid (E6.out.then_below hb7)
  have O7' : Hid (Rd y7 (.slice A7' n10 c7') n10 1 (ints l10)) := Lib.hid (by have h := ho7.rd; rw [← HN10.out] at h; exact h)
  rw [← HN10.out]
  clear ho7 hb7
  go_wp2_with fail
  with_reducible refine (same_any A7' A10 n10 n10 c7' c10 l10 HN10.out HN10.out _ O7'.out (Q10.out.below (no_below (no_trans FO.out E7.out))) (Nat.le_trans L10.out (by decide))).mono ?_
  rintro e8 y8 ⟨rfl, k8, hy8⟩
  have E8 := Lib.hid (drewN_fr E7.out hy8)
  clear hy8
  go_wp2_with fail
  with_reducible refine (kind_nobody none 0 _ (Nobody.nil _)).mono ?_
  rintro e9 y9 ⟨rfl, k9, hy9⟩
  have E9 := Lib.hid (drewN_fr E8.out hy9)
  clear hy9
  go_wp2_with fail
  with_reducible refine (kind_nobody (some ⟨go, 0, none⟩) 0 _ (Nobody.odd (OD.out.fr E9.out))).mono ?_
  rintro e10 y10 ⟨rfl, k10, hy10⟩
  have E10 := Lib.hid (drewN_fr E9.out hy10)
  clear hy10
  go_wp2_with fail
  with_reducible refine (free_nil _).mono ?_
  rintro e11 y11 ⟨rfl, hy11⟩
  have E11 := Lib.hid (E10.out.then_below hy11)
  clear hy11
  go_wp2_with fail
  with_reducible refine (size_nil _).mono ?_
  rintro e12 y12 ⟨rfl, hy12⟩
  have E12 := Lib.hid (E11.out.then_below hy12)
  clear hy12
  go_wp2_with fail
  with_reducible refine (first_nil _).mono ?_
  rintro e13 y13 ⟨rfl, hy13⟩
  have E13 := Lib.hid (E12.out.then_below hy13)
  clear hy13
  go_wp2_with fail
  with_reducible refine (count_nobody none _ (Nobody.nil _)).mono ?_
  rintro e14 y14 ⟨rfl, hy14⟩
  have E14 := Lib.hid (E13.out.then_below hy14)
  clear hy14
  go_wp2_with fail
  with_reducible refine (longest_nobody (some ⟨go, 0, none⟩) _ (Nobody.odd (OD.out.fr E14.out))).mono ?_
  rintro e15 y15 ⟨rfl, hy15⟩
  have E15 := Lib.hid (E14.out.then_below hy15)
  clear hy15
  go_wp2_with fail
  with_reducible refine (all_nil _).mono ?_
  rintro e16 y16 ⟨rfl, k16, hy16⟩
  have E16 := Lib.hid (drewN_fr E15.out hy16)
  clear hy16
  go_wp2_with fail
  with_reducible refine (clone_nobody none _ (Nobody.nil _)).mono ?_
  rintro e17 y17 ⟨rfl, k17, hy17⟩
  have E17 := Lib.hid (drewN_fr E16.out hy17)
  clear hy17
  go_wp2_with fail
  with_reducible refine (clone_nobody (some ⟨go, 0, none⟩) _ (Nobody.odd (OD.out.fr E17.out))).mono ?_
  rintro e18 y18 ⟨rfl, k18, hy18⟩
  have E18 := Lib.hid (drewN_fr E17.out hy18)
  clear hy18
  go_wp2_with fail
  go_ret
  exact ⟨rfl, B10.out.trans ((no_trans FO.out E18.out).below B10.out.size (fun _ h => h.elim))⟩


end Go.Proofs.Ytaegmlmibbppoaa.PageClones
