/- Proved: the laws MemNobody, MemClones and MemMoves of package scutagelaw04 over any arguments. -/
import Derived.Test.YticlhahjgiaieaaMemRun
namespace Go.Proofs.Yticlhahjgiaieaa.MemTop
open Go.RowKit Go.Proofs.Yticlhahjgiaieaa.H Go.Proofs.Yticlhahjgiaieaa.Words Go.Proofs.Yticlhahjgiaieaa.Mem Go.Proofs.Yticlhahjgiaieaa.MemLaw Go.Proofs.Yticlhahjgiaieaa.MemStep Go.Proofs.Yticlhahjgiaieaa.MemRun Go.ChangeShapes Go.WideShapes

theorem nob_nil (w : World) : Nobody w none := .inl rfl
theorem nob_odd {w : World} {g : Nat} (h : Odd w g) : Nobody w (some ⟨g, 0, none⟩) := .inr ⟨g, rfl, h⟩

set_option maxRecDepth 100000 in
set_option maxHeartbeats 25600000 in
theorem nobody_any (a n x : Int) (w : World) :
    Calls Try.prog 6 #[.int .i64 a, .int .i64 n, .int .i64 x] w (Same w (.bool true)) := by
  go_enter Try.func6, Try.ntmps6
  go_wp2_with fail
  refine (alive_any _).mono ?_
  rintro e w1 ⟨rfl, hb1⟩
  have B1 := Lib.hid hb1
  clear hb1
  go_wp2_with fail
  generalize hw2 : w1.alloc (.cells #[.bool false, .slice none 0 0] 41) = w2
  have G2 : Hid (Fr No w1 w2) := Lib.hid (by rw [← hw2]; exact Fr.alloc (Fr.refl _ _) _)
  have OD : Hid (Odd w2 w1.heap.size) := Lib.hid (by rw [← hw2]; exact heap_alloc_new _ _)
  clear hw2
  go_wp2_with (first
    | (go_at_call 18; (with_reducible refine (load_nobody none a _ (nob_nil _)).mono ?_); rintro e wz ⟨rfl, nz, rfl⟩)
    | (go_at_call 18; (with_reducible refine (load_nobody (some ⟨w1.heap.size, 0, none⟩) a _ (nob_odd (OD.out.fr (by repeat (first | with_reducible exact F21.out | with_reducible exact F20.out | exact Fr.refl _ _ | apply Fr.drewN | apply Fr.drew | apply Fr.alloc))))).mono ?_); rintro e wz ⟨rfl, nz, rfl⟩)
    | (go_at_call 14; (with_reducible refine (store_nobody none a x _ (nob_nil _)).mono ?_); rintro e wz ⟨rfl, nz, rfl⟩)
    | (go_at_call 14; (with_reducible refine (store_nobody (some ⟨w1.heap.size, 0, none⟩) a x _ (nob_odd (OD.out.fr (by repeat (first | with_reducible exact F21.out | with_reducible exact F20.out | exact Fr.refl _ _ | apply Fr.drewN | apply Fr.drew | apply Fr.alloc))))).mono ?_); rintro e wz ⟨rfl, nz, rfl⟩)
    | (go_at_call 19; (with_reducible refine (fill_nobody none a n x _ (nob_nil _)).mono ?_); rintro e wz ⟨rfl, nz, rfl⟩)
    | (go_at_call 19; (with_reducible refine (fill_nobody (some ⟨w1.heap.size, 0, none⟩) a n x _ (nob_odd (OD.out.fr (by repeat (first | with_reducible exact F21.out | with_reducible exact F20.out | exact Fr.refl _ _ | apply Fr.drewN | apply Fr.drew | apply Fr.alloc))))).mono ?_); rintro e wz ⟨rfl, nz, rfl⟩)
    | (go_at_call 16; (with_reducible refine (move_nobody none a n 0 _ (nob_nil _)).mono ?_); rintro e wz ⟨rfl, nz, rfl⟩)
    | (go_at_call 16; (with_reducible refine (move_nobody (some ⟨w1.heap.size, 0, none⟩) a n 0 _ (nob_odd (OD.out.fr (by repeat (first | with_reducible exact F21.out | with_reducible exact F20.out | exact Fr.refl _ _ | apply Fr.drewN | apply Fr.drew | apply Fr.alloc))))).mono ?_); rintro e wz ⟨rfl, nz, rfl⟩)
    | (go_at_call 20; (with_reducible refine (len_nobody none  _ (nob_nil _)).mono ?_); rintro e wz ⟨rfl, nz, rfl⟩)
    | (go_at_call 20; (with_reducible refine (len_nobody (some ⟨w1.heap.size, 0, none⟩)  _ (nob_odd (OD.out.fr (by repeat (first | with_reducible exact F21.out | with_reducible exact F20.out | exact Fr.refl _ _ | apply Fr.drewN | apply Fr.drew | apply Fr.alloc))))).mono ?_); rintro e wz ⟨rfl, nz, rfl⟩)
    | (go_at_call 17; (with_reducible refine (clone_nobody none  _ (nob_nil _)).mono ?_); rintro e wz ⟨rfl, nz, rfl⟩)
    | (go_at_call 17; (with_reducible refine (clone_nobody (some ⟨w1.heap.size, 0, none⟩)  _ (nob_odd (OD.out.fr (by repeat (first | with_reducible exact F21.out | with_reducible exact F20.out | exact Fr.refl _ _ | apply Fr.drewN | apply Fr.drew | apply Fr.alloc))))).mono ?_); rintro e wz ⟨rfl, nz, rfl⟩)
    | (go_at_call 11; (with_reducible refine (all_nobody none _ (nob_nil _)).mono ?_); rintro e w20 ⟨v20, rfl, hown, hbb⟩; obtain ⟨A20, c20, rfl, _⟩ := hown.slice; have F20 := Lib.hid (show Fr No w2 w20 from Fr.then_below (by repeat (first | with_reducible exact F21.out | with_reducible exact F20.out | exact Fr.refl _ _ | apply Fr.drewN | apply Fr.drew | apply Fr.alloc)) hbb); clear hown hbb)
    | (go_at_call 11; (with_reducible refine (all_nobody (some ⟨w1.heap.size, 0, none⟩) _ (nob_odd (OD.out.fr (by repeat (first | with_reducible exact F21.out | with_reducible exact F20.out | exact Fr.refl _ _ | apply Fr.drewN | apply Fr.drew | apply Fr.alloc))))).mono ?_); rintro e w21 ⟨v21, rfl, hown, hbb⟩; obtain ⟨A21, c21, rfl, _⟩ := hown.slice; have F21 := Lib.hid (show Fr No w2 w21 from Fr.then_below (by repeat (first | with_reducible exact F21.out | with_reducible exact F20.out | exact Fr.refl _ _ | apply Fr.drewN | apply Fr.drew | apply Fr.alloc)) hbb); clear hown hbb))
  go_ret
  exact ⟨rfl, ((Fr.of_below B1.out No).trans G2.out (fun i (h : No i) => h.elim)).trans (S' := No) (by repeat (first | with_reducible exact F21.out | with_reducible exact F20.out | exact Fr.refl _ _ | apply Fr.drewN | apply Fr.drew | apply Fr.alloc)) (fun i (h : No i) => h.elim) |>.below (Nat.le_refl _) (fun _ h => h.elim)⟩

set_option maxRecDepth 100000 in
set_option maxHeartbeats 25600000 in
theorem clones_any (n : Int) (va vb vc : Value) (la lb lc : List Cl) (w : World) (hra : Rd w va la.length 5 (calls la)) (hrb : Rd w vb lb.length 5 (calls lb)) (hrc : Rd w vc lc.length 5 (calls lc)) :
    Calls Try.prog 5 #[.int .i64 n, va, vb, vc] w (Same w (.bool true)) := by
  obtain ⟨Aa, ca, rfl, hca⟩ := hra.slice
  obtain ⟨Ab, cb, rfl, hcb⟩ := hrb.slice
  obtain ⟨Ac, cc, rfl, hcc⟩ := hrc.slice
  obtain ⟨r, hrm⟩ : ∃ r : Nat, max 0 (min n 100) = (r : Int) := ⟨(max 0 (min n 100)).toNat, by omega⟩
  have hb : r ≤ 100 := by omega
  have hr2 : max 0 (min (r : Int) 2048) = (r : Int) := by omega
  have RA := Lib.hid hra
  have RB := Lib.hid hrb
  have RC := Lib.hid hrc
  have HM := Lib.hid hrm
  have HM2 := Lib.hid hr2
  have CA := Lib.hid hca
  have CB := Lib.hid hcb
  have CC := Lib.hid hcc
  clear hra hrb hrc hrm hr2 hca hcb hcc
  go_enter Try.func5, Try.ntmps5
  go_wp2_with fail
  refine (alive_any _).mono ?_
  rintro e w1 ⟨rfl, hb1⟩
  have B1 := Lib.hid hb1
  clear hb1
  go_wp2_with fail
  refine (near_any n 0 100 r HM.out (by omega) _).mono ?_
  rintro e wn ⟨rfl, nn, rfl⟩
  go_wp2_with fail
  refine (new_any r r HM2.out _).mono ?_
  rintro e w3 ⟨g, v, rfl, hs3, hb3⟩
  have S3 := Lib.hid (hs3.lower (B' := w.heap.size) (by have := B1.out.size; simpa using this))
  have B3 : Hid (Below w.heap.size w w3) := Lib.hid (((Fr.of_below B1.out No).drewN nn).below (Nat.le_refl _) (fun _ h => h.elim) |>.trans (hb3.mono (by have := B1.out.size; simpa using this)))
  clear hs3 hb3 B1
  have hmk := run_make_row' (P := Try.prog) 26 2 (.int .i64 0) 8 Try.underlying26 infoE rfl .i64 .i64 r (by omega) (by omega)
  go_wp2_with fail
  go_upto_region 5 with (fail)
  go_cut [10, 11] (fun v10 v11 wc => v11 = .bool true ∧ Hid (∃ l, Both wc w.heap.size g v v10 l) ∧ Hid (Below w.heap.size w wc))
  case first =>
    have F3 : ∀ i, Foot g v i → i < w3.heap.size := fun i hi => (S3.out.foot_lt i hi).2
    have F3' := Lib.hid F3
    clear F3
    have P4 : Hid (Both (w3.alloc (.cells (madeCells #[Value.int .i64 0] r) 2)) w.heap.size g v (.slice (some ⟨w3.heap.size, 0, none⟩) r r) (List.replicate r 0)) := Lib.hid ⟨S3.out.no (Fr.alloc (Fr.refl _ _) _), made_own w3 w.heap.size r B3.out.size (by omega), fun k hk h => by injection hk with hk; have := F3'.out k h; simp only at hk; omega⟩
    go_region_with ((first
      | (go_at_call 13; refine (few_any Aa la.length ca _ CA.out).mono ?_; rintro e wf ⟨rfl, hwf⟩; subst hwf)
      | (go_at_call 12; refine (run_cut w.heap.size g v _ (List.replicate r 0) Aa ca la w _ (P4.out.fr (by repeat (first | exact Fr.refl _ _ | apply Fr.drewN | apply Fr.drew | apply Fr.alloc))) RA.out (fun W hW => below_via B3.out (by repeat (first | exact Fr.refl _ _ | apply Fr.drewN | apply Fr.drew | apply Fr.alloc)) hW)).mono ?_; rintro e w5 ⟨bv5, l5, rfl, hb5, hf5, _⟩; have P5 := Lib.hid hb5; have B5 := Lib.hid (B3.out.trans ((show M w3 w.heap.size g v (List.replicate r 0) from S3.out).below (Fr.trans (by repeat (first | exact Fr.refl _ _ | apply Fr.drewN | apply Fr.drew | apply Fr.alloc)) hf5 (fun i hi => .inl hi)) B3.out.size)); clear hb5 hf5)))
    all_goals
      go_wp2
      go_meet
      case rel => exact ⟨rfl, Lib.hid ⟨l5, P5.out⟩, B5⟩
  case rest =>
    obtain ⟨rfl, HP, B5⟩ := hcut
    obtain ⟨l5, hP⟩ := HP.out
    obtain ⟨A5, c5, rfl, _⟩ := hP.row.slice
    obtain ⟨wb, rfl⟩ : ∃ wb : World, wb = wc := ⟨_, rfl⟩
    have P5 := Lib.hid hP
    clear HP hP
    go_wp2_with fail
    refine (Mem.clone_any w.heap.size g v l5 _ P5.out.mem).mono ?_
    rintro e w7 ⟨g7, v7, rfl, hs7, hb7⟩
    have S7 := Lib.hid hs7
    have F7 := Lib.hid (Fr.of_below hb7 No)
    clear hs7 hb7
    go_wp2_with fail
    refine (all_any w.heap.size g v l5 _ (P5.out.mem.no F7.out)).mono ?_
    rintro e w8 ⟨v8, rfl, ho8, hb8⟩
    obtain ⟨A8, c8, rfl, _⟩ := ho8.slice
    have O8 := Lib.hid ho8
    have F8 := Lib.hid (Fr.of_below hb8 No)
    have hl5 : l5.length ≤ 2048 := P5.out.mem.len
    clear ho8 hb8
    go_wp2_with fail
    go_loopw [14] (fun i wr => ∃ k : Nat, k ≤ l5.length ∧ i = .int .i64 k ∧ Hid (∃ l', l'.length = l5.length ∧ Own wr w7.heap.size (.slice A8 l5.length c8) l' ∧ Fr (fun j => (Value.slice A8 l5.length c8).ownBlock = some j) w8 wr)) (fun i _ => l5.length - (intOf i).toNat)
    case atStart => exact ⟨0, Nat.zero_le _, rfl, Lib.hid ⟨l5, rfl, O8.out, Fr.refl _ _⟩⟩
    case round =>
      obtain ⟨k, hk, rfl, HK⟩ := hrel
      obtain ⟨l', hl', ho, hf⟩ := HK.out
      have O := Lib.hid ho
      have F := Lib.hid hf
      have HL := Lib.hid hl'
      clear HK
      by_cases hlt : k < l5.length
      · obtain ⟨d, y, rfl, x0, f0, _⟩ := ho.cell k (by omega)
        have i1 : (0 : Int) ≤ (k : Int) := Int.natCast_nonneg _
        have i2 : (k : Int) < (l5.length : Int) := by omega
        clear ho hf hl'
        go_wp2
        go_roundw
        case rel => exact ⟨k + 1, by omega, by go_num, Lib.hid ⟨_, by rw [List.length_set]; exact HL.out, O.out.put (d := d) k _, F.out.setCell (p := ⟨d, k, none⟩) (.inl rfl) _⟩⟩
        case measure => simp [intOf]; omega
      · obtain rfl : k = l5.length := by omega
        clear ho hf hl' hk hlt
        obtain ⟨wo, rfl⟩ : ∃ wo : World, wo = wr := ⟨_, rfl⟩
        have hz7 := F7.out.size
        have N8 : Hid (∀ i, (Value.slice A8 l5.length c8).ownBlock = some i → w7.heap.size ≤ i) := Lib.hid (fun i hi => (O8.out.lt i hi).1)
        have G8 : Hid (Fr (fun j => (Value.slice A8 l5.length c8).ownBlock = some j) w7 wo) := Lib.hid ((F8.out.mono (fun _ h => h.elim)).trans F.out (fun i hi => .inl hi))
        have fg : Hid (∀ i, Foot g v i → i < wb.heap.size) := Lib.hid (fun i hi => (P5.out.mem.foot_lt i hi).2)
        have b5 : Hid (∀ i, (Value.slice A5 l5.length c5).ownBlock = some i → i < wb.heap.size) := Lib.hid (fun i hi => (P5.out.row.lt i hi).2)
        have f7 : Hid (∀ i, Foot g7 v7 i → wb.heap.size ≤ i ∧ i < w7.heap.size) := Lib.hid S7.out.foot_lt
        have P9 : Hid (Both wo w.heap.size g v (.slice A5 l5.length c5) l5) := Lib.hid ⟨(P5.out.mem.no F7.out).fr G8.out (fun i hi h => by have := fg.out i hi; have := N8.out i h; omega), (P5.out.row.fr F7.out (fun _ _ h => h)).fr G8.out (fun i hi h => by have := b5.out i hi; have := N8.out i h; omega), P5.out.sep⟩
        have S9 : Hid (M wo w.heap.size g7 v7 l5) := Lib.hid ((S7.out.fr G8.out (fun i hi h => by have := (f7.out i hi).2; have := N8.out i h; omega)).lower B5.out.size)
        have B9 : Hid (Below w.heap.size w wo) := Lib.hid ((B5.out.trans (F7.out.below B5.out.size (fun _ h => h.elim))).trans (G8.out.below (by have := B5.out.size; omega) (fun i hi => by have := N8.out i hi; have := B5.out.size; omega)))
        have hz9 := G8.out.size
        go_wp2_with fail
        refine (few_any Ab lb.length cb _ CB.out).mono ?_
        rintro e wf ⟨rfl, hwf⟩
        subst hwf
        go_wp2_with fail
        refine (run_cut w.heap.size g v _ l5 Ab cb lb w _ P9.out RB.out (fun W hW => B9.out.trans hW)).mono ?_
        rintro e w10 ⟨bv10, l10, rfl, hb10, hf10, hm10⟩
        obtain ⟨A10, c10, rfl, _⟩ := hb10.row.slice
        have P10 := Lib.hid hb10
        have F10 := Lib.hid hf10
        have M10 := Lib.hid hm10
        clear hb10 hf10 hm10
        have hz10 := F10.out.size
        have e7 : Hid (∀ i, Foot g7 v7 i → ¬ Foot g v i) := Lib.hid (fun i hi h => by have := (f7.out i hi).1; have := fg.out i h; omega)
        have S10 : Hid (M w10 w.heap.size g7 v7 l5) := Lib.hid (S9.out.fr F10.out e7.out)
        have Q10 : Hid (Both w10 w.heap.size g7 v7 (.slice A5 l5.length c5) l5) := Lib.hid ⟨S10.out, P9.out.row.fr F10.out P9.out.sep, fun i hi h => by have := b5.out i hi; have := (f7.out i h).1; omega⟩
        have B10 : Hid (Below w.heap.size w w10) := Lib.hid (B9.out.trans (P9.out.mem.below F10.out B9.out.size))
        have r10 : Hid (∀ i, (Value.slice A10 l10.length c10).ownBlock = some i → ¬ Foot g7 v7 i) := Lib.hid (fun i hi h => by
          rcases M10.out with h2 | h2
          · have := b5.out i (by rw [← h2]; exact hi); have := (f7.out i h).1; omega
          · have := h2 i hi; have := (f7.out i h).2; omega)
        go_wp2_with fail
        refine (few_any Ac lc.length cc _ CC.out).mono ?_
        rintro e wf ⟨rfl, hwf⟩
        subst hwf
        go_wp2_with fail
        refine (run_cut w.heap.size g7 v7 _ l5 Ac cc lc w _ Q10.out RC.out (fun W hW => B10.out.trans hW)).mono ?_
        rintro e w11 ⟨bv11, l11, rfl, hb11, hf11, _⟩
        obtain ⟨A11, c11, rfl, _⟩ := hb11.row.slice
        have Q11 := Lib.hid hb11
        have F11 := Lib.hid hf11
        clear hb11 hf11
        have P11 : Hid (Both w11 w.heap.size g v (.slice A10 l10.length c10) l10) := Lib.hid ⟨P10.out.mem.fr F11.out (fun i hi h => e7.out i h hi), P10.out.row.fr F11.out r10.out, P10.out.sep⟩
        have B11 : Hid (Below w.heap.size w w11) := Lib.hid (B10.out.trans (S10.out.below F11.out B10.out.size))
        have l10' : l10.length ≤ 2048 := P11.out.mem.len
        have l11' : l11.length ≤ 2048 := Q11.out.mem.len
        go_wp2_with fail
        refine (all_any w.heap.size g v l10 _ P11.out.mem).mono ?_
        rintro e w12 ⟨v12, rfl, ho12, hb12⟩
        obtain ⟨A12, c12, rfl, _⟩ := ho12.slice
        have O12 := Lib.hid ho12
        have F12 := Lib.hid (Fr.of_below hb12 No)
        clear ho12 hb12
        go_wp2_with fail
        refine (Words.same_any A12 A10 l10.length l10.length c12 c10 l10 rfl rfl _ O12.out.rd (P11.out.row.fr F12.out (fun _ _ h => h)).rd (by omega)).mono ?_
        rintro e w13 ⟨rfl, n13, rfl⟩
        go_wp2_with fail
        refine (all_any w.heap.size g7 v7 l11 _ (Q11.out.mem.no (F12.out.drewN n13))).mono ?_
        rintro e w14 ⟨v14, rfl, ho14, hb14⟩
        obtain ⟨A14, c14, rfl, _⟩ := ho14.slice
        have O14 := Lib.hid ho14
        have F14 := Lib.hid ((F12.out.drewN n13).then_below hb14)
        clear ho14 hb14
        go_wp2_with fail
        refine (Words.same_any A14 A11 l11.length l11.length c14 c11 l11 rfl rfl _ O14.out.rd (Q11.out.row.fr F14.out (fun _ _ h => h)).rd (by omega)).mono ?_
        rintro e w15 ⟨rfl, n15, rfl⟩
        go_wp2
        go_ret
        exact ⟨rfl, (Fr.of_below B11.out No).trans (F14.out.drewN n15) (fun i (h : No i) => h.elim) |>.below (Nat.le_refl _) (fun _ h => h.elim)⟩

end Go.Proofs.Yticlhahjgiaieaa.MemTop
