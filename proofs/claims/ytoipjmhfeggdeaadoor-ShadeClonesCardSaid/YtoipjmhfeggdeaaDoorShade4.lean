/- Proved: what All of package shade answers; the helpers of the laws of package scutagelaw18; what is told of a grey is as of the reference's. -/
import Derived.Test.YtoipjmhfeggdeaaDoorShadeOnce
import Derived.Test.YtoipjmhfeggdeaaDoorRef18c
namespace Go.Proofs.YtoipjmhfeggdeaaDoor.Shade4
open Go.RowKit Go.Proofs.YtoipjmhfeggdeaaDoor.H Go.Proofs.YtoipjmhfeggdeaaDoor.Nums Go.Proofs.YtoipjmhfeggdeaaDoor.BitPure Go.Proofs.YtoipjmhfeggdeaaDoor.Shade Go.Proofs.YtoipjmhfeggdeaaDoor.Ref18
set_option linter.unusedVariables false
attribute [local irreducible] elems from_ nxt elemsN rc zCells

set_option maxHeartbeats 1600000 in
theorem all_any (B gg : Nat) (P : Pl) (v : Value) (l : List (Int × Int)) (room : Int) (over : Bool) (ws : List Nat) (w : World) (h : G w B gg P v l room over ws) (ht : Bitmap.Tab w) :
    Calls Tryd.prog 23 #[.pointer (some ⟨gg, 0, none⟩)] w (Bitmap.ListPost (elems ws) w) := by
  have HH := Lib.hid h
  have HT := Lib.hid ht
  clear h ht
  go_enter Tryd.func23, Tryd.ntmps23
  go_wp2_with fail
  with_reducible refine (set_any B gg P v l room over ws _ HH.out).mono ?_
  rintro e w1 ⟨rfl, q1, hw1⟩
  have F1 := Lib.hid (show Fr No w w1 from Bitmap.drewN_fr (Fr.refl No w) hw1)
  clear hw1
  go_wp2_with fail
  with_reducible refine (Bitmap.all_any B P.gs 2048 ws _ (HH.out.no F1.out).set (HT.out.no F1.out)).mono ?_
  rintro e w2 ⟨v2, rfl, ho2, hb2⟩
  have O2 := Lib.hid (ho2.lower F1.out.size)
  have B2 := Lib.hid (show Below w.heap.size w w2 from (F1.out.below (Nat.le_refl _) (fun _ h => h.elim)).trans (hb2.mono F1.out.size))
  clear ho2 hb2
  go_wp2_with fail
  go_ret
  exact ⟨v2, rfl, O2.out, B2.out⟩

/-- those of a set below k -/
def under (ws : List Nat) (k : Nat) : List Int := ((List.range k).filter (has ws)).map fun i : Nat => (i : Int)

theorem under_zero (ws : List Nat) : under ws 0 = [] := rfl

theorem under_succ (ws : List Nat) (k : Nat) : under ws (k + 1) = if has ws k = true then under ws k ++ [(k : Int)] else under ws k := by
  unfold under
  rw [List.range_succ, List.filter_append, List.map_append]
  split
  · rename_i h
    rw [List.filter_cons_of_pos h]
    rfl
  · rename_i h
    rw [List.filter_cons_of_neg h]
    simp

theorem under_all (ws : List Nat) : under ws 2048 = elems ws := by
  unfold under elems elemsN
  rfl

theorem under_len (ws : List Nat) (k : Nat) : (under ws k).length ≤ k := by
  unfold under
  rw [List.length_map]
  have := List.length_filter_le (has ws) (List.range k)
  rw [List.length_range] at this
  exact this

attribute [local irreducible] under

set_option maxRecDepth 100000 in
set_option maxHeartbeats 12800000 in
theorem told_any (B gg gm : Nat) (P : Pl) (v vm : Value) (l : List (Int × Int)) (room : Int) (over : Bool) (ws : List Nat) (w : World) (h : G w B gg P v l room over ws) (hr : R w B gm vm l room over ws) (ht : Bitmap.Tab w) :
    Calls Tryd.prog 10 #[.pointer (some ⟨gg, 0, none⟩), .pointer (some ⟨gm, 0, none⟩)] w (Same w (.bool true)) := by
  obtain ⟨Am, cm, rfl, _⟩ := own_slice hr.own
  have HG := Lib.hid h
  have HR := Lib.hid hr
  have HT := Lib.hid ht
  clear h hr ht
  go_enter Tryd.func10, Tryd.ntmps10
  go_wp2_with fail
  go_loopw [5, 6] (fun o i wr => ∃ k : Nat, k ≤ 2048 ∧ i = .int .i64 k ∧ Hid (Own wr w.heap.size o (under ws k) ∧ Below w.heap.size w wr)) (fun _ i _ => 2048 - (intOf i).toNat)
  case atStart => exact ⟨0, Nat.zero_le _, rfl, Lib.hid ⟨by rw [under_zero]; exact Own.nil _ _, Below.refl _ _⟩⟩
  case round =>
    obtain ⟨k, hk, rfl, HQ⟩ := hrel
    rename_i o
    have i1 : (0 : Int) ≤ (k : Int) := Int.natCast_nonneg _
    obtain ⟨A5, c5, rfl, hA5⟩ := HQ.out.1.slice
    have HUL := Lib.hid (under_len ws k)
    by_cases hlt : k < 2048
    · have i2 : (k : Int) < 2048 := by omega
      have HLT := Lib.hid hlt
      have x0 := ((HR.out.no (Fr.of_below HQ.out.2 No)).mark k hlt).1
      have HS := Lib.hid (under_succ ws k)
      clear hlt
      cases hh : has ws k with
      | true =>
        rw [hh] at x0
        have HM : Hid (under ws (k + 1) = under ws k ++ [(k : Int)]) := Lib.hid (by rw [HS.out, if_pos hh])
        clear hh
        obtain ⟨t, ht⟩ : ∃ t, t = under ws k := ⟨_, rfl⟩
        rw [← ht] at HQ HM HUL hA5 ⊢
        clear ht
        obtain ⟨m5, hm5⟩ : ∃ m5, m5 = t.length := ⟨_, rfl⟩
        rw [← hm5] at HQ hA5 HUL ⊢
        have HM5 := Lib.hid hm5
        clear hm5
        go_wp2_with (at_builtin; refine app_one (l := t) (y := (k : Int)) rfl _ _ rfl rfl (HQ.out.1.fr (Fr.alloc (Fr.refl No _) _) (fun _ _ h => h)) rfl rfl (heap_alloc_new _ _) (by decide) (by have := HUL.out; have := HM5.out; have := HLT.out; omega) (by have := HQ.out.2.size; simp; omega) ?_; intro v6 w6 h1 h2 h3; have O6 := Lib.hid h1; have G6 := Lib.hid h2; clear h1 h2 h3)
        go_roundw
        case rel => exact ⟨k + 1, HLT.out, by go_num, Lib.hid ⟨by rw [HM.out]; exact O6.out, (Fr.grown (Fr.alloc (Fr.of_below HQ.out.2 No) _) G6.out (fun j hj => .inr (HQ.out.1.lt j hj).1)).below (Nat.le_refl _) (fun _ h => h.elim)⟩⟩
        case measure => have := HLT.out; simp [intOf]; omega
      | false =>
        rw [hh] at x0
        have HM : Hid (under ws (k + 1) = under ws k) := Lib.hid (by rw [HS.out, if_neg (by rw [hh]; simp)])
        clear hh
        go_wp2_with fail
        go_roundw
        case rel => exact ⟨k + 1, HLT.out, by go_num, Lib.hid ⟨by rw [HM.out]; exact HQ.out.1, HQ.out.2⟩⟩
        case measure => have := HLT.out; simp [intOf]; omega
    · obtain rfl : k = 2048 := by omega
      have HLE := Lib.hid (elems_len ws)
      have HB := Lib.hid HQ.out.2
      have hown := HQ.out.1
      rw [under_all] at hown ⊢
      have GW := Lib.hid (HG.out.no (Fr.of_below HQ.out.2 No))
      have RW := Lib.hid (HR.out.no (Fr.of_below HQ.out.2 No))
      have TW := Lib.hid (HT.out.low HQ.out.2)
      have HAL := Lib.hid (fun W (hW : Fr No wr W) => all_any B gg P v l room over ws W (GW.out.no hW) (TW.out.no hW))
      have HCO := Lib.hid (fun W (hW : Fr No wr W) => count_any B gg P v l room over ws W (GW.out.no hW))
      have HWA := Lib.hid (fun W (hW : Fr No wr W) => waiting_any B gg P v l room over ws W (GW.out.no hW))
      have HOV := Lib.hid (fun W (hW : Fr No wr W) => gover_any B gg P v l room over ws W (GW.out.no hW))
      obtain ⟨es, hes⟩ : ∃ es, es = elems ws := ⟨_, rfl⟩
      rw [← hes] at hown HAL HCO HLE ⊢
      obtain ⟨q, hq⟩ : ∃ q, q = es.length := ⟨_, rfl⟩
      have HRE : Hid (∀ W, Fr No wr W → Rd W (.slice A5 q c5) q 1 (ints es)) := Lib.hid (fun W hW => by have h9 := (hown.fr hW (fun _ _ h => h)).rd; rw [← hq] at h9; exact h9)
      rw [← hq] at HCO HLE ⊢
      have HYQ := Lib.hid hq
      have c0 := RW.out.rest.1
      have c2 := RW.out.rest.2.2
      have C0 := Lib.hid c0
      have C2 := Lib.hid c2
      have gq : ((q : Int) == (q : Int)) = true := by simp
      have gl : ((l.length : Int) == (l.length : Int)) = true := by simp
      have go : (over == over) = true := by simp
      clear hlt hown hes hq HQ hA5 HUL
      go_wp2_with fail
      go_region_held3 (fun W => W.cell? ⟨gm, 2048, none⟩ = some (.slice Am l.length cm) ∧ W.cell? ⟨gm, 2050, none⟩ = some (.bool over)) (((try go_split_ands); refine ⟨?_, ?_⟩ <;> (first | with_reducible assumption | (with_reducible exact F11.out.cell C0.out (fun h => h)) | (with_reducible exact F11.out.cell C2.out (fun h => h)) | (with_reducible exact F10.out.cell C0.out (fun h => h)) | (with_reducible exact F10.out.cell C2.out (fun h => h)) | (with_reducible exact F9.out.cell C0.out (fun h => h)) | (with_reducible exact F9.out.cell C2.out (fun h => h)) | (with_reducible exact F8.out.cell C0.out (fun h => h)) | (with_reducible exact F8.out.cell C2.out (fun h => h)) | (with_reducible exact F7.out.cell C0.out (fun h => h)) | (with_reducible exact F7.out.cell C2.out (fun h => h)) | (go_keep; done))))
        ((first
          | (go_at_call 23; refine (HAL.out _ (by repeat (first | exact Fr.refl _ _ | apply Fr.drewN | apply Fr.drew | apply Fr.alloc))).mono ?_; rintro e7 w7 ⟨v7, rfl, ho7, hb7⟩; obtain ⟨A7, c7, rfl, _⟩ := ho7.slice; have F7 := Lib.hid (show Fr No wr w7 from Fr.then_below (by repeat (first | exact Fr.refl _ _ | apply Fr.drewN | apply Fr.drew | apply Fr.alloc)) hb7); have hr7 := ho7.rd; rw [← HYQ.out] at hr7 ⊢; have R7 := Lib.hid hr7; clear ho7 hb7 hr7)
          | (go_at_call 30; refine (same_any A7 A5 q q c7 c5 es HYQ.out HYQ.out _ (R7.out.fr (S := No) (by repeat (first | exact Fr.refl _ _ | apply Fr.drewN | apply Fr.drew | apply Fr.alloc)) (fun _ _ h => h)) (HRE.out _ (by repeat (first | exact F7.out | apply Fr.drewN | apply Fr.drew | apply Fr.alloc))) (by have := HLE.out; have := HYQ.out; omega)).mono ?_; rintro e8 w8 ⟨rfl, m8, hw8⟩; have F8 := Lib.hid (show Fr No wr w8 from Bitmap.drewN_fr (by repeat (first | exact F7.out | apply Fr.drewN | apply Fr.drew | apply Fr.alloc)) hw8); clear hw8)
          | (go_at_call 18; refine (HCO.out _ (by repeat (first | exact F8.out | apply Fr.drewN | apply Fr.drew | apply Fr.alloc))).mono ?_; rintro e9 w9 ⟨rfl, m9, hw9⟩; have F9 := Lib.hid (show Fr No wr w9 from Bitmap.drewN_fr (by repeat (first | exact F8.out | apply Fr.drewN | apply Fr.drew | apply Fr.alloc)) hw9); clear hw9)
          | (go_at_call 20; refine (HWA.out _ (by repeat (first | exact F9.out | apply Fr.drewN | apply Fr.drew | apply Fr.alloc))).mono ?_; rintro e10 w10 ⟨rfl, hb10⟩; have F10 := Lib.hid (show Fr No wr w10 from Fr.then_below (by repeat (first | exact F9.out | apply Fr.drewN | apply Fr.drew | apply Fr.alloc)) hb10); clear hb10)
          | (go_at_call 21; refine (HOV.out _ (by repeat (first | exact F10.out | apply Fr.drewN | apply Fr.drew | apply Fr.alloc))).mono ?_; rintro e11 w11 ⟨rfl, hb11⟩; have F11 := Lib.hid (show Fr No wr w11 from Fr.then_below (by repeat (first | exact F10.out | apply Fr.drewN | apply Fr.drew | apply Fr.alloc)) hb11); clear hb11)))
      all_goals
        go_wp2_with fail
        go_ret
        exact ⟨rfl, HB.out.trans (Fr.below (S := No) (by repeat (first | exact F11.out | apply Fr.drewN | apply Fr.drew | apply Fr.alloc)) HB.out.size (fun _ h => h.elim))⟩

end Go.Proofs.YtoipjmhfeggdeaaDoor.Shade4
