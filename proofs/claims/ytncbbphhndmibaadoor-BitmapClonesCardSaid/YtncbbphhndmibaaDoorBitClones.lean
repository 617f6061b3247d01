/- Proved: the law BitmapClones of package scutagelaw05 over any arguments. -/
import Derived.Test.YtncbbphhndmibaaDoorBitRun
namespace Go.Proofs.YtncbbphhndmibaaDoor.BitClones
open Go.RowKit Go.Proofs.YtncbbphhndmibaaDoor.H Go.Proofs.YtncbbphhndmibaaDoor.Nums Go.Proofs.YtncbbphhndmibaaDoor.BitPure Go.Proofs.YtncbbphhndmibaaDoor.Bitmap Go.Proofs.YtncbbphhndmibaaDoor.BitLaw Go.Proofs.YtncbbphhndmibaaDoor.BitStep Go.Proofs.YtncbbphhndmibaaDoor.BitRun
set_option linter.unusedVariables false
attribute [local irreducible] elems from_ nxt elemsN

theorem mem_fr {w w' : World} {B g n g2 n2 B2 : Nat} {ws ws2 : List Nat} {vm : Value} (h : Own w B vm (elems ws)) (h2 : S w B2 g2 n2 ws2) (hf : Fr (Foot g2) w w') : Own w' B vm (elems ws) :=
  h.fr hf (fun k hk hq => own_ne_blk h h2.blk (by decide) (by rw [hk]; unfold Foot at hq; rw [hq]))
set_option maxRecDepth 100000 in
set_option maxHeartbeats 25600000 in
theorem clones_any (n : Int) (va vc vd : Value) (la lc ld : List (Int × Int)) (w : World) (ht : Tab w) (ha : Rd w va la.length 2 (calls la)) (hc : Rd w vc lc.length 2 (calls lc)) (hd : Rd w vd ld.length 2 (calls ld)) :
    Calls Tryd.prog 5 #[.int .i64 n, va, vc, vd] w (Same w (.bool true)) := by
  obtain ⟨Aa, ca, rfl, hca⟩ := ha.slice
  obtain ⟨Ac, cc, rfl, hcc⟩ := hc.slice
  obtain ⟨Ad, cd, rfl, hcd⟩ := hd.slice
  have CA := Lib.hid hca
  have CC := Lib.hid hcc
  have CD := Lib.hid hcd
  have RA := Lib.hid ha
  have RC := Lib.hid hc
  have RD := Lib.hid hd
  have HT := Lib.hid ht
  have HM : Hid (max 0 (min n 2048) = (topN n : Int)) := Lib.hid (by unfold topN; omega)
  clear ha hc hd hca hcc hcd ht
  go_enter Tryd.func5, Tryd.ntmps5
  go_wp2_with fail
  with_reducible refine (alive_any _ HT.out).mono ?_
  rintro x1 w1 ⟨rfl, hb1⟩
  have B1 := Lib.hid hb1
  clear hb1
  go_wp2_with fail
  with_reducible refine (near_any n 0 2048 _ HM.out (by omega) _).mono ?_
  rintro x2 w2 ⟨rfl, n2, hw2⟩
  have B2 := Lib.hid (B1.out.trans ((drewN_fr (Fr.refl No w1) hw2).below B1.out.size (fun _ h => h.elim)))
  clear hw2
  go_wp2_with fail
  with_reducible refine (new_any n _).mono ?_
  rintro x3 w3 ⟨g, rfl, hs3, hb3⟩
  have S3 := Lib.hid (hs3.lower B2.out.size)
  have B3 := Lib.hid (B2.out.trans (hb3.mono B2.out.size))
  clear hs3 hb3
  obtain ⟨N, hN⟩ : ∃ N, N = topN n := ⟨_, rfl⟩
  rw [← hN] at S3 ⊢
  clear hN
  go_wp2_with fail
  with_reducible refine (few_any Aa la.length ca _ CA.out).mono ?_
  rintro x4 w4 ⟨rfl, hw4⟩
  subst hw4
  go_wp2_with fail
  with_reducible refine (run_cut w.heap.size g N w0 (.slice none 0 0) Aa ca la w _ ⟨S3.out, by rw [w0_elems]; exact Own.nil _ _, HT.out.low B3.out, tab_pos HT.out⟩ B3.out.size RA.out (fun W hW => B3.out.trans hW)).mono ?_
  rintro x5 w5 ⟨vm5, ws5, rfl, hb5, hf5⟩
  obtain ⟨A5, c5, rfl, _⟩ := hb5.mem.slice
  have B5 := Lib.hid (B3.out.trans (S3.out.below hf5 B3.out.size))
  obtain ⟨n5, hn5⟩ : ∃ n5, n5 = (elems ws5).length := ⟨_, rfl⟩
  rw [← hn5] at hb5 ⊢
  have H5 := Lib.hid hb5
  clear hb5 hf5 hn5 S3
  go_wp2_with fail
  with_reducible refine (clone_any w.heap.size g N ws5 w5 H5.out.set).mono ?_
  rintro x6 w6 ⟨g2, rfl, hs6, hb6⟩
  have F6 := Lib.hid (Fr.of_below hb6 No)
  have NE := Lib.hid (show g2 ≠ g by have h1 := hs6.base; have h2 := H5.out.set.lt; omega)
  have S6 := Lib.hid (hs6.lower B5.out.size)
  have B6 := Lib.hid (B5.out.trans (F6.out.below B5.out.size (fun _ h => h.elim)))
  have H6 := Lib.hid (H5.out.no F6.out)
  clear hs6 hb6
  go_wp2_with fail
  with_reducible refine (few_any Ac lc.length cc _ CC.out).mono ?_
  rintro x7 wf ⟨rfl, hwf⟩
  subst hwf
  go_wp2_with fail
  with_reducible refine (run_cut w.heap.size g N ws5 _ Ac cc lc w _ H6.out B6.out.size RC.out (fun W hW => B6.out.trans hW)).mono ?_
  rintro x8 w8 ⟨vm8, ws8, rfl, hb8, hf8⟩
  obtain ⟨A8, c8, rfl, _⟩ := hb8.mem.slice
  obtain ⟨n8, hn8⟩ : ∃ n8, n8 = (elems ws8).length := ⟨_, rfl⟩
  have B8 := Lib.hid (B6.out.trans (H6.out.set.below hf8 B6.out.size))
  have S8 := Lib.hid (S6.out.fr hf8 (fun h => NE.out h))
  have M8 := Lib.hid (mem_fr (g := g) (n := N) H6.out.mem H6.out.set hf8)
  have N8 := Lib.hid hn8
  rw [← hn8] at hb8 ⊢
  have H8 := Lib.hid hb8
  clear hb8 hf8 hn8
  go_wp2_with fail
  with_reducible refine (few_any Ad ld.length cd _ CD.out).mono ?_
  rintro x9 wf ⟨rfl, hwf⟩
  subst hwf
  go_wp2_with fail
  with_reducible refine (run_cut w.heap.size g2 N ws5 _ Ad cd ld w _ ⟨S8.out, M8.out, HT.out.low B8.out, tab_pos HT.out⟩ B8.out.size RD.out (fun W hW => B8.out.trans hW)).mono ?_
  rintro x10 w10 ⟨vm10, ws10, rfl, hb10, hf10⟩
  obtain ⟨A10, c10, rfl, _⟩ := hb10.mem.slice
  obtain ⟨n10, hn10⟩ : ∃ n10, n10 = (elems ws10).length := ⟨_, rfl⟩
  have N10 := Lib.hid hn10
  have B10 := Lib.hid (B8.out.trans (S8.out.below hf10 B8.out.size))
  have SA := Lib.hid (H8.out.set.fr hf10 (fun h => NE.out h.symm))
  have MA := Lib.hid (mem_fr (g := g) (n := N) H8.out.mem S8.out hf10)
  rw [← hn10] at hb10 ⊢
  have SB := Lib.hid hb10.set
  have MB := Lib.hid hb10.mem
  clear hb10 hf10 hn10
  have X11 : Hid (Odd (w10.alloc (.cells #[Value.bool false, Value.int IntKind.i64 0, Value.int IntKind.u64 0, Value.int IntKind.u64 0, Value.int IntKind.u64 0, Value.int IntKind.u64 0, Value.int IntKind.u64 0, Value.int IntKind.u64 0, Value.int IntKind.u64 0, Value.int IntKind.u64 0, Value.int IntKind.u64 0, Value.int IntKind.u64 0, Value.int IntKind.u64 0, Value.int IntKind.u64 0, Value.int IntKind.u64 0, Value.int IntKind.u64 0, Value.int IntKind.u64 0, Value.int IntKind.u64 0, Value.int IntKind.u64 0, Value.int IntKind.u64 0, Value.int IntKind.u64 0, Value.int IntKind.u64 0, Value.int IntKind.u64 0, Value.int IntKind.u64 0, Value.int IntKind.u64 0, Value.int IntKind.u64 0, Value.int IntKind.u64 0, Value.int IntKind.u64 0, Value.int IntKind.u64 0, Value.int IntKind.u64 0, Value.int IntKind.u64 0, Value.int IntKind.u64 0, Value.int IntKind.u64 0, Value.int IntKind.u64 0] 41)) w10.heap.size) := Lib.hid (heap_alloc_new w10 _)
  have FA := Lib.hid (Fr.alloc (Fr.refl No w10) (.cells #[Value.bool false, Value.int IntKind.i64 0, Value.int IntKind.u64 0, Value.int IntKind.u64 0, Value.int IntKind.u64 0, Value.int IntKind.u64 0, Value.int IntKind.u64 0, Value.int IntKind.u64 0, Value.int IntKind.u64 0, Value.int IntKind.u64 0, Value.int IntKind.u64 0, Value.int IntKind.u64 0, Value.int IntKind.u64 0, Value.int IntKind.u64 0, Value.int IntKind.u64 0, Value.int IntKind.u64 0, Value.int IntKind.u64 0, Value.int IntKind.u64 0, Value.int IntKind.u64 0, Value.int IntKind.u64 0, Value.int IntKind.u64 0, Value.int IntKind.u64 0, Value.int IntKind.u64 0, Value.int IntKind.u64 0, Value.int IntKind.u64 0, Value.int IntKind.u64 0, Value.int IntKind.u64 0, Value.int IntKind.u64 0, Value.int IntKind.u64 0, Value.int IntKind.u64 0, Value.int IntKind.u64 0, Value.int IntKind.u64 0, Value.int IntKind.u64 0, Value.int IntKind.u64 0] 41))
  have hsz : (w10.alloc (.cells #[Value.bool false, Value.int IntKind.i64 0, Value.int IntKind.u64 0, Value.int IntKind.u64 0, Value.int IntKind.u64 0, Value.int IntKind.u64 0, Value.int IntKind.u64 0, Value.int IntKind.u64 0, Value.int IntKind.u64 0, Value.int IntKind.u64 0, Value.int IntKind.u64 0, Value.int IntKind.u64 0, Value.int IntKind.u64 0, Value.int IntKind.u64 0, Value.int IntKind.u64 0, Value.int IntKind.u64 0, Value.int IntKind.u64 0, Value.int IntKind.u64 0, Value.int IntKind.u64 0, Value.int IntKind.u64 0, Value.int IntKind.u64 0, Value.int IntKind.u64 0, Value.int IntKind.u64 0, Value.int IntKind.u64 0, Value.int IntKind.u64 0, Value.int IntKind.u64 0, Value.int IntKind.u64 0, Value.int IntKind.u64 0, Value.int IntKind.u64 0, Value.int IntKind.u64 0, Value.int IntKind.u64 0, Value.int IntKind.u64 0, Value.int IntKind.u64 0, Value.int IntKind.u64 0] 41)).heap.size = w10.heap.size + 1 := by simp
  go_wp2_with fail
  with_reducible refine (clear_nil _).mono ?_
  rintro x11 w11 ⟨rfl, q11, hw11⟩
  have F11 := Lib.hid (drewN_fr (Fr.refl No _) hw11)
  have Y11 := Lib.hid (X11.out.no F11.out)
  have G11 := Lib.hid (FA.out.trans F11.out (fun i (h : No i) => h.elim))
  clear hw11 X11 FA F11 hsz
  go_wp2_with fail
  with_reducible refine (clear_odd _ _ Y11.out).mono ?_
  rintro x12 w12 ⟨rfl, hy12, hf12⟩
  have Y12 := Lib.hid hy12
  have G12 := Lib.hid (show Fr (Foot w10.heap.size) w10 w12 from Fr.trans (G11.out.mono (fun _ h => h.elim)) hf12 (fun i hi => .inl hi))
  have hlA := SA.out.lt
  have hlB := SB.out.lt
  have SA2 := Lib.hid (SA.out.fr G12.out (fun h => by unfold Foot at h; omega))
  have SB2 := Lib.hid (SB.out.fr G12.out (fun h => by unfold Foot at h; omega))
  have MA2 := Lib.hid (MA.out.fr G12.out (fun k hk h => by have := (MA.out.lt k hk).2; unfold Foot at h; omega))
  have MB2 := Lib.hid (MB.out.fr G12.out (fun k hk h => by have := (MB.out.lt k hk).2; unfold Foot at h; omega))
  have B12 := Lib.hid (B10.out.trans (G12.out.below B10.out.size (fun k hk => by have := B10.out.size; unfold Foot at hk; omega)))
  have T12 := Lib.hid (HT.out.low B12.out)
  have HL8 := Lib.hid (elems_len ws8)
  have HL10 := Lib.hid (elems_len ws10)
  have HAA := Lib.hid (fun W (hW : Fr No w12 W) => all_any w.heap.size g N ws8 W (SA2.out.no hW) (T12.out.no hW))
  have HAB := Lib.hid (fun W (hW : Fr No w12 W) => all_any w.heap.size g2 N ws10 W (SB2.out.no hW) (T12.out.no hW))
  have HRA : Hid (∀ W, Fr No w12 W → Rd W (.slice A8 n8 c8) n8 1 (ints (elems ws8))) := Lib.hid (fun W hW => by have h9 := (MA2.out.fr hW (fun _ _ h => h)).rd; rw [← N8.out] at h9; exact h9)
  have HRB : Hid (∀ W, Fr No w12 W → Rd W (.slice A10 n10 c10) n10 1 (ints (elems ws10))) := Lib.hid (fun W hW => by have h9 := (MB2.out.fr hW (fun _ _ h => h)).rd; rw [← N10.out] at h9; exact h9)
  obtain ⟨e8, he8⟩ : ∃ e8, e8 = elems ws8 := ⟨_, rfl⟩
  obtain ⟨e10, he10⟩ : ∃ e10, e10 = elems ws10 := ⟨_, rfl⟩
  rw [← he8] at HAA HRA HL8 N8
  rw [← he10] at HAB HRB HL10 N10
  clear hy12 hf12 hlA hlB he8 he10 MA MB MA2 MB2
  go_wp2_with fail
  with_reducible refine (HAA.out _ (by repeat (first | exact Fr.refl _ _ | apply Fr.drewN | apply Fr.drew | apply Fr.alloc))).mono ?_
  rintro x20 w20 ⟨v20, rfl, ho, hb⟩
  have F20 := Lib.hid (show Fr No w12 w20 from Fr.then_below (by repeat (first | exact Fr.refl _ _ | apply Fr.drewN | apply Fr.drew | apply Fr.alloc)) hb)
  obtain ⟨Q20, d20, rfl, _⟩ := ho.slice
  have hr := ho.rd
  rw [← N8.out] at hr ⊢
  have R20 := Lib.hid hr
  clear ho hb hr
  go_wp2_with fail
  with_reducible refine (same_any Q20 A8 n8 n8 d20 c8 e8 N8.out N8.out _ (R20.out.fr (S := No) (by repeat (first | exact Fr.refl _ _ | apply Fr.drewN | apply Fr.drew | apply Fr.alloc)) (fun _ _ h => h)) (HRA.out _ (by repeat (first | exact F20.out | apply Fr.drewN | apply Fr.drew | apply Fr.alloc))) (by have := HL8.out; omega)).mono ?_
  rintro x21 w21 ⟨rfl, m21, hw⟩
  have F21 := Lib.hid (show Fr No w12 w21 from drewN_fr (by repeat (first | exact F20.out | apply Fr.drewN | apply Fr.drew | apply Fr.alloc)) hw)
  clear hw
  go_wp2_with fail
  with_reducible refine (HAB.out _ (by repeat (first | exact F21.out | apply Fr.drewN | apply Fr.drew | apply Fr.alloc))).mono ?_
  rintro x22 w22 ⟨v22, rfl, ho, hb⟩
  have F22 := Lib.hid (show Fr No w12 w22 from Fr.then_below (by repeat (first | exact F21.out | apply Fr.drewN | apply Fr.drew | apply Fr.alloc)) hb)
  obtain ⟨Q22, d22, rfl, _⟩ := ho.slice
  have hr := ho.rd
  rw [← N10.out] at hr ⊢
  have R22 := Lib.hid hr
  clear ho hb hr
  go_wp2_with fail
  with_reducible refine (same_any Q22 A10 n10 n10 d22 c10 e10 N10.out N10.out _ (R22.out.fr (S := No) (by repeat (first | exact Fr.refl _ _ | apply Fr.drewN | apply Fr.drew | apply Fr.alloc)) (fun _ _ h => h)) (HRB.out _ (by repeat (first | exact F22.out | apply Fr.drewN | apply Fr.drew | apply Fr.alloc))) (by have := HL10.out; omega)).mono ?_
  rintro x23 w23 ⟨rfl, m23, hw⟩
  have F23 := Lib.hid (show Fr No w12 w23 from drewN_fr (by repeat (first | exact F22.out | apply Fr.drewN | apply Fr.drew | apply Fr.alloc)) hw)
  clear hw
  go_wp2_with fail
  with_reducible refine (add_nil 0 _).mono ?_
  rintro x24 w24 ⟨rfl, m24, hw⟩
  have F24 := Lib.hid (show Fr No w12 w24 from drewN_fr (by repeat (first | exact F23.out | apply Fr.drewN | apply Fr.drew | apply Fr.alloc)) hw)
  clear hw
  go_wp2_with fail
  with_reducible refine (add_odd 0 w10.heap.size _ (Y12.out.no (by repeat (first | exact F24.out | apply Fr.drewN | apply Fr.drew | apply Fr.alloc)))).mono ?_
  rintro x25 w25 ⟨rfl, m25, hw⟩
  have F25 := Lib.hid (show Fr No w12 w25 from drewN_fr (by repeat (first | exact F24.out | apply Fr.drewN | apply Fr.drew | apply Fr.alloc)) hw)
  clear hw
  go_wp2_with fail
  with_reducible refine (remove_nil 0 _).mono ?_
  rintro x26 w26 ⟨rfl, m26, hw⟩
  have F26 := Lib.hid (show Fr No w12 w26 from drewN_fr (by repeat (first | exact F25.out | apply Fr.drewN | apply Fr.drew | apply Fr.alloc)) hw)
  clear hw
  go_wp2_with fail
  with_reducible refine (has_odd 0 w10.heap.size _ (Y12.out.no (by repeat (first | exact F26.out | apply Fr.drewN | apply Fr.drew | apply Fr.alloc)))).mono ?_
  rintro x27 w27 ⟨rfl, m27, hw⟩
  have F27 := Lib.hid (show Fr No w12 w27 from drewN_fr (by repeat (first | exact F26.out | apply Fr.drewN | apply Fr.drew | apply Fr.alloc)) hw)
  clear hw
  go_wp2_with fail
  with_reducible refine (count_nil _).mono ?_
  rintro x28 w28 ⟨rfl, m28, hw⟩
  have F28 := Lib.hid (show Fr No w12 w28 from drewN_fr (by repeat (first | exact F27.out | apply Fr.drewN | apply Fr.drew | apply Fr.alloc)) hw)
  clear hw
  go_wp2_with fail
  with_reducible refine (next_odd 0 w10.heap.size _ (Y12.out.no (by repeat (first | exact F28.out | apply Fr.drewN | apply Fr.drew | apply Fr.alloc)))).mono ?_
  rintro x29 w29 ⟨rfl, m29, hw⟩
  have F29 := Lib.hid (show Fr No w12 w29 from drewN_fr (by repeat (first | exact F28.out | apply Fr.drewN | apply Fr.drew | apply Fr.alloc)) hw)
  clear hw
  go_wp2_with fail
  with_reducible refine (next_nil 0 _).mono ?_
  rintro x30 w30 ⟨rfl, m30, hw⟩
  have F30 := Lib.hid (show Fr No w12 w30 from drewN_fr (by repeat (first | exact F29.out | apply Fr.drewN | apply Fr.drew | apply Fr.alloc)) hw)
  clear hw
  go_wp2_with fail
  with_reducible refine (all_nil _).mono ?_
  rintro x31 w31 ⟨rfl, m31, hw⟩
  have F31 := Lib.hid (show Fr No w12 w31 from drewN_fr (by repeat (first | exact F30.out | apply Fr.drewN | apply Fr.drew | apply Fr.alloc)) hw)
  clear hw
  go_wp2_with fail
  with_reducible refine (clone_nil _).mono ?_
  rintro x32 w32 ⟨rfl, m32, hw⟩
  have F32 := Lib.hid (show Fr No w12 w32 from drewN_fr (by repeat (first | exact F31.out | apply Fr.drewN | apply Fr.drew | apply Fr.alloc)) hw)
  clear hw
  go_wp2_with fail
  with_reducible refine (clone_odd w10.heap.size _ (Y12.out.no (by repeat (first | exact F32.out | apply Fr.drewN | apply Fr.drew | apply Fr.alloc)))).mono ?_
  rintro x33 w33 ⟨rfl, m33, hw⟩
  have F33 := Lib.hid (show Fr No w12 w33 from drewN_fr (by repeat (first | exact F32.out | apply Fr.drewN | apply Fr.drew | apply Fr.alloc)) hw)
  clear hw
  go_wp2_with fail
  go_ret
  exact ⟨rfl, B12.out.trans (Fr.below F33.out B12.out.size (fun _ h => h.elim))⟩
end Go.Proofs.YtncbbphhndmibaaDoor.BitClones
