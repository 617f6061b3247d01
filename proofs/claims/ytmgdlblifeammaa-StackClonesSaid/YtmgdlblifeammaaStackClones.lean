/- Proved: the law StackClones over any arguments. -/
import Derived.Test.YtmgdlblifeammaaStackTop
namespace Go.Proofs.Ytmgdlblifeammaa.StackTop
open Go.RowKit Go.Proofs.Ytmgdlblifeammaa.H Go.Proofs.Ytmgdlblifeammaa.Stack Go.Proofs.Ytmgdlblifeammaa.StackLaw Go.Proofs.Ytmgdlblifeammaa.StackRun Go.Proofs.Ytmgdlblifeammaa.StackRuns Go.ChangeShapes Go.WideShapes

theorem Odd.fr {w w' : World} {g : Nat} (h : Odd w g) (hf : Fr No w w') : Odd w' g := hf.blk h (fun h => h)

/-- a stack and the row of a book beside another stack -/
theorem foot_after {w : World} {g : Nat} {v v' : Value} (hat : v'.ownBlock = v.ownBlock ∨ ∃ k, v'.ownBlock = some k ∧ w.heap.size ≤ k) : ∀ i, Foot g v' i → Foot g v i ∨ w.heap.size ≤ i := by
  rintro i (h | h)
  · exact .inl (.inl h)
  · rcases hat with h2 | ⟨j, h2, h3⟩
    · exact .inl (.inr (by rw [← h2]; exact h))
    · rw [h2] at h; injection h with h; exact .inr (by omega)

set_option maxRecDepth 100000 in
set_option maxHeartbeats 25600000 in
theorem clones_any (n : Int) (va vb vc : Value) (la lb lc : List (Int × Int × Int)) (w : World) (hra : Rd w va la.length 3 (calls la)) (hrb : Rd w vb lb.length 3 (calls lb)) (hrc : Rd w vc lc.length 3 (calls lc)) :
    Calls Try.prog 5 #[.int .i64 n, va, vb, vc] w (Same w (.bool true)) := by
  obtain ⟨Aa, ca, rfl, hca⟩ := hra.slice
  obtain ⟨Ab, cb, rfl, hcb⟩ := hrb.slice
  obtain ⟨Ac, cc, rfl, hcc⟩ := hrc.slice
  obtain ⟨r, hrm⟩ : ∃ r, max 1 (min n 256) = r := ⟨_, rfl⟩
  have RA := Lib.hid hra
  have RB := Lib.hid hrb
  have RC := Lib.hid hrc
  have HM := Lib.hid hrm
  have CA := Lib.hid hca
  have CB := Lib.hid hcb
  have CC := Lib.hid hcc
  have HE : Hid (∀ l : List (Int × Int × Int), (l.take 60).length = min l.length 60) := Lib.hid (fun l => by rw [List.length_take]; omega)
  clear hra hrb hrc hrm hca hcb hcc
  go_enter Try.func5, Try.ntmps5
  go_wp2_with fail
  refine (alive_any _).mono ?_
  rintro e w1 ⟨rfl, hb1⟩
  have B1 := Lib.hid hb1
  clear hb1
  go_wp2_with fail
  refine (new_any n r HM.out _).mono ?_
  rintro e w3 ⟨g, rfl, hs3, hb3⟩
  have H3 := Lib.hid (Stk.lower hs3 B1.out.size)
  have B3 := Lib.hid (B1.out.trans (hb3.mono B1.out.size))
  clear hs3 hb3 B1
  go_wp2_with fail
  refine (near_any n r HM.out _).mono ?_
  rintro e w2 ⟨rfl, n2, rfl⟩
  go_wp2_with fail
  refine (few_any Aa la.length ca _ CA.out).mono ?_
  rintro e w4 ⟨rfl, hw4⟩
  subst hw4
  go_wp2_with fail
  rw [show min la.length 60 = (la.take 60).length from (HE.out la).symm]
  have B4 : Hid (Below w.heap.size w (w3.drewN n2)) := Lib.hid (((Fr.of_below B3.out No).drewN n2).below (Nat.le_refl _) (fun _ h => h.elim))
  refine (run_any w.heap.size g (.slice none 0 0) (.slice none 0 0) [] r false Aa ca (la.take 60) (w3.drewN n2) ((Both.mk H3.out (World.ownsRow_nil _ _ _ _) (fun k hk => by cases hk)).fr (Fr.drewN (Fr.refl No w3) n2)) B4.out.size (fun W hW => by rw [HE.out]; have h := calls_rd rfl RA.out (B4.out.trans hW); rw [HE.out] at h; exact h) (by have := HE.out la; omega)).mono ?_
  rintro e w5 ⟨v5, bv5, l5, over5, rfl, hb5, hf5, hat5, hmv5⟩
  obtain ⟨A5, c5, rfl, _⟩ := own_slice hb5.row
  have B5 := Lib.hid (B4.out.trans ((H3.out.fr (Fr.drewN (Fr.refl No w3) n2) (fun _ _ h => h)).below hf5 B4.out.size))
  have H5 := Lib.hid hb5
  clear hb5 hf5 hat5 hmv5 H3 B3 B4
  go_wp2_with fail
  generalize hw6 : w5.alloc (.cells #[.slice A5 l5.length c5, .int .i64 r, .bool over5] 35) = w6
  have F6 : Hid (Fr No w5 w6) := Lib.hid (by rw [← hw6]; exact Fr.alloc (Fr.refl _ _) _)
  have K6 : Hid (w6.heap[w5.heap.size]? = some (.cells #[.slice A5 l5.length c5, .int .i64 r, .bool over5] 35 (0, 0))) := Lib.hid (by rw [← hw6]; exact heap_alloc_new _ _)
  clear hw6
  refine (StackTop.clone_any w.heap.size g v5 l5 r over5 w6 (H5.out.stk.fr F6.out (fun _ _ h => h))).mono ?_
  rintro e w7 ⟨g7, v7, rfl, hs7, hb7⟩
  have S7 := Lib.hid hs7
  have G7 := Lib.hid hb7
  clear hs7 hb7
  have H7 := Lib.hid ((H5.out.fr F6.out).fr (Fr.of_below G7.out No))
  have K7 := Lib.hid ((G7.out.block _ (lt_of_blk K6.out)).trans K6.out)
  have B7 : Hid (Below w.heap.size w w7) := Lib.hid ((B5.out.trans (F6.out.below B5.out.size (fun _ h => h.elim))).trans (G7.out.mono (by have := B5.out.size; have := F6.out.size; omega)))
  have NF : Hid (¬ Foot g v5 w5.heap.size) := Lib.hid (fun h => by have := (H5.out.stk.foot_lt _ h).2; omega)
  have NZ : Hid (¬ Foot g v5 w7.heap.size) := Lib.hid (fun h => by have := (H7.out.stk.foot_lt _ h).2; omega)
  have k0 : w7.cell? ⟨w5.heap.size, 0, none⟩ = some (.slice A5 l5.length c5) := cell_of K7.out 0
  have k1 : w7.cell? ⟨w5.heap.size, 1, none⟩ = some (.int .i64 r) := cell_of K7.out 1
  have k2 : w7.cell? ⟨w5.heap.size, 2, none⟩ = some (.bool over5) := cell_of K7.out 2
  have nn7 := World.new_ne w7 _ k0
  have Y0 := Lib.hid k0
  have Y1 := Lib.hid k1
  have Y2 := Lib.hid k2
  go_upto_region 6 with (fail)
  go_cut [13, 14] (fun v13 v14 wc => ∃ b v8 bv8 l8 over8, v13 = .pointer (some ⟨b, 0, none⟩) ∧ v14 = .bool true ∧ Hid (RunDone w.heap.size g v5 (.slice A5 l5.length c5) r w7 wc b v8 bv8 l8 over8))
  case first => as_aux_lemma =>
    go_region_held3 (fun w' => w'.cell? ⟨w5.heap.size, 0, none⟩ = some (.slice A5 l5.length c5) ∧ w'.cell? ⟨w5.heap.size, 1, none⟩ = some (.int .i64 r) ∧ w'.cell? ⟨w5.heap.size, 2, none⟩ = some (.bool over5))
      (((try go_split_ands); refine ⟨?_, ?_, ?_⟩ <;> (first | with_reducible assumption | (with_reducible exact F8.out.cell Y0.out NF.out) | (with_reducible exact F8.out.cell Y1.out NF.out) | (with_reducible exact F8.out.cell Y2.out NF.out) | (with_reducible exact (Fr.alloc (Fr.refl No w8) _).cell (F8.out.cell Y0.out NF.out) (fun h => h)) | (with_reducible exact (Fr.alloc (Fr.refl No w8) _).cell (F8.out.cell Y1.out NF.out) (fun h => h)) | (with_reducible exact (Fr.alloc (Fr.refl No w8) _).cell (F8.out.cell Y2.out NF.out) (fun h => h)) | (go_keep; done))))
      ((first
        | (go_at_call 13; refine (few_min Ab lb.length cb _ CB.out).mono ?_; rintro e wf ⟨rfl, hwf⟩; subst hwf)
        | (go_at_call 12; refine (run_cut w.heap.size g v5 _ l5 r over5 Ab cb lb w _ (H7.out.fr (by repeat (first | exact Fr.refl _ _ | apply Fr.drewN | apply Fr.drew | apply Fr.alloc))) (by have h := B7.out.size; simp; omega) RB.out (fun W hW => below_via B7.out (by repeat (first | exact Fr.refl _ _ | apply Fr.drewN | apply Fr.drew | apply Fr.alloc)) hW)).mono ?_; rintro e w8 ⟨v8, bv8, l8, over8, rfl, hb8, hf8, hat8, hm8⟩; obtain ⟨A8, c8, rfl, _⟩ := own_slice hb8.row; (try (have z8 : w8.heap[w7.heap.size]? = some (.cells #[.slice none 0 0, .int .i64 0, .bool false] 35 (0, 0)) := hf8.blk (heap_alloc_new w7 _) NZ.out; have z80 : w8.cell? ⟨w7.heap.size, 0, none⟩ = some (.slice none 0 0) := cell_of z8 0; have z81 : w8.cell? ⟨w7.heap.size, 1, none⟩ = some (.int .i64 0) := cell_of z8 1; have z82 : w8.cell? ⟨w7.heap.size, 2, none⟩ = some (.bool false) := cell_of z8 2; have q80 := free_of z8 0; have q81 := free_of z8 1; have q82 := free_of z8 2; have Z8 := Lib.hid z8; clear z8)); have F8 := Lib.hid (show Fr (Foot g v5) w7 w8 from Fr.trans (by repeat (first | exact Fr.refl _ _ | apply Fr.drewN | apply Fr.drew | apply Fr.alloc)) hf8 (fun i hi => .inl hi)); have H8 := Lib.hid hb8; have A8' : Hid (Moved v5 v8 w7) := Lib.hid (Moved.back hat8 (by simp)); have M8 : Hid (Moved (.slice A5 l5.length c5) (.slice A8 l8.length c8) w7) := Lib.hid (Moved.back hm8 (by simp)); have nn8 := World.new_ne w8 _ (F8.out.cell Y0.out NF.out); clear hb8 hf8 hat8 hm8)))
    all_goals
      go_wp2
      go_meet
      case rel =>
        first
        | exact ⟨_, v8, _, l8, over8, rfl, rfl, Lib.hid (RunDone.alloc H8.out F8.out A8'.out M8.out)⟩
        | exact ⟨_, v8, _, l8, over8, rfl, rfl, Lib.hid (RunDone.set H8.out F8.out A8'.out M8.out Z8.out)⟩
  case rest =>
    obtain ⟨b8, v8, bv8, l8, over8, rfl, rfl, D8⟩ := hcut
    obtain ⟨wb, rfl⟩ : ∃ wb : World, wb = wc := ⟨_, rfl⟩
    obtain ⟨A8, c8, rfl, _⟩ := own_slice D8.out.both.row
    have L7 : Hid (∀ k, Foot g7 v7 k → w6.heap.size ≤ k ∧ k < w7.heap.size) := Lib.hid S7.out.foot_lt
    have E7 : Hid (∀ k, Foot g7 v7 k → ¬ Foot g v5 k) := Lib.hid (fun k hk h => by have := (L7.out k hk).1; have := (H5.out.stk.foot_lt k h).2; have := F6.out.size; omega)
    have S8 : Hid (Stk wb w.heap.size g7 v7 l5 r over5) := Lib.hid (Stk.lower (S7.out.fr D8.out.fr E7.out) (by have := B5.out.size; have := F6.out.size; omega))
    have bl5 : Hid (∀ k, (Value.slice A5 l5.length c5).ownBlock = some k → k < w5.heap.size) := Lib.hid (fun k hk => (H5.out.row.lt k hk).2)
    have P8 : Hid (Both wb w.heap.size g7 v7 (.slice A5 l5.length c5) l5 r over5) := Lib.hid ⟨S8.out, D8.out.fr.own H7.out.row H7.out.sep, fun k hk h => by have := bl5.out k hk; have := (L7.out k h).1; have := F6.out.size; omega⟩
    have B8 : Hid (Below w.heap.size w wb) := Lib.hid (B7.out.trans (H7.out.stk.below D8.out.fr B7.out.size))
    have K8 : Hid (wb.heap[w5.heap.size]? = some (.cells #[.slice A5 l5.length c5, .int .i64 r, .bool over5] 35 (0, 0))) := Lib.hid (D8.out.fr.blk K7.out NF.out)
    have NF8 : Hid (¬ Foot g7 v7 w5.heap.size) := Lib.hid (fun h => by have := (L7.out _ h).1; have := lt_of_blk K6.out; omega)
    have NZ8 : Hid (¬ Foot g7 v7 wb.heap.size) := Lib.hid (fun h => by have := (S8.out.foot_lt _ h).2; omega)
    clear k0 k1 k2 Y0 Y1 Y2 nn7
    have k0 : wb.cell? ⟨w5.heap.size, 0, none⟩ = some (.slice A5 l5.length c5) := cell_of K8.out 0
    have k1 : wb.cell? ⟨w5.heap.size, 1, none⟩ = some (.int .i64 r) := cell_of K8.out 1
    have k2 : wb.cell? ⟨w5.heap.size, 2, none⟩ = some (.bool over5) := cell_of K8.out 2
    have nn7 := World.new_ne wb _ k0
    have Y0 := Lib.hid k0
    have Y1 := Lib.hid k1
    have Y2 := Lib.hid k2
    go_upto_region 7 with (fail)
    go_cut [15, 16] (fun v15 v16 wd => ∃ b v10 bv10 l10 over10, v15 = .pointer (some ⟨b, 0, none⟩) ∧ v16 = .bool true ∧ Hid (RunDone w.heap.size g7 v7 (.slice A5 l5.length c5) r wb wd b v10 bv10 l10 over10))
    case first => as_aux_lemma =>
      go_region_held3 (fun w' => w'.cell? ⟨w5.heap.size, 0, none⟩ = some (.slice A5 l5.length c5) ∧ w'.cell? ⟨w5.heap.size, 1, none⟩ = some (.int .i64 r) ∧ w'.cell? ⟨w5.heap.size, 2, none⟩ = some (.bool over5))
        (((try go_split_ands); refine ⟨?_, ?_, ?_⟩ <;> (first | with_reducible assumption | (with_reducible exact F10.out.cell Y0.out NF8.out) | (with_reducible exact F10.out.cell Y1.out NF8.out) | (with_reducible exact F10.out.cell Y2.out NF8.out) | (with_reducible exact (Fr.alloc (Fr.refl No w10) _).cell (F10.out.cell Y0.out NF8.out) (fun h => h)) | (with_reducible exact (Fr.alloc (Fr.refl No w10) _).cell (F10.out.cell Y1.out NF8.out) (fun h => h)) | (with_reducible exact (Fr.alloc (Fr.refl No w10) _).cell (F10.out.cell Y2.out NF8.out) (fun h => h)) | (go_keep; done))))
        ((first
          | (go_at_call 13; refine (few_min Ac lc.length cc _ CC.out).mono ?_; rintro e wf ⟨rfl, hwf⟩; subst hwf)
          | (go_at_call 12; refine (run_cut w.heap.size g7 v7 _ l5 r over5 Ac cc lc w _ (P8.out.fr (by repeat (first | exact Fr.refl _ _ | apply Fr.drewN | apply Fr.drew | apply Fr.alloc))) (by have h := B8.out.size; simp; omega) RC.out (fun W hW => below_via B8.out (by repeat (first | exact Fr.refl _ _ | apply Fr.drewN | apply Fr.drew | apply Fr.alloc)) hW)).mono ?_; rintro e w10 ⟨v10, bv10, l10, over10, rfl, hb8, hf8, hat8, hm8⟩; obtain ⟨A10, c10, rfl, _⟩ := own_slice hb8.row; (try (have z8 : w10.heap[wb.heap.size]? = some (.cells #[.slice none 0 0, .int .i64 0, .bool false] 35 (0, 0)) := hf8.blk (heap_alloc_new wb _) NZ8.out; have z80 : w10.cell? ⟨wb.heap.size, 0, none⟩ = some (.slice none 0 0) := cell_of z8 0; have z81 : w10.cell? ⟨wb.heap.size, 1, none⟩ = some (.int .i64 0) := cell_of z8 1; have z82 : w10.cell? ⟨wb.heap.size, 2, none⟩ = some (.bool false) := cell_of z8 2; have q80 := free_of z8 0; have q81 := free_of z8 1; have q82 := free_of z8 2; have Z10 := Lib.hid z8; clear z8)); have F10 := Lib.hid (show Fr (Foot g7 v7) wb w10 from Fr.trans (by repeat (first | exact Fr.refl _ _ | apply Fr.drewN | apply Fr.drew | apply Fr.alloc)) hf8 (fun i hi => .inl hi)); have H10 := Lib.hid hb8; have A10' : Hid (Moved v7 v10 wb) := Lib.hid (Moved.back hat8 (by simp)); have M10 : Hid (Moved (.slice A5 l5.length c5) (.slice A10 l10.length c10) wb) := Lib.hid (Moved.back hm8 (by simp)); have nn8 := World.new_ne w10 _ (F10.out.cell Y0.out NF8.out); clear hb8 hf8 hat8 hm8)))
      all_goals
        go_wp2
        go_meet
        case rel =>
          first
          | exact ⟨_, v10, _, l10, over10, rfl, rfl, Lib.hid (RunDone.alloc H10.out F10.out A10'.out M10.out)⟩
          | exact ⟨_, v10, _, l10, over10, rfl, rfl, Lib.hid (RunDone.set H10.out F10.out A10'.out M10.out Z10.out)⟩
    case rest =>
      obtain ⟨b10, v10, bv10, l10, over10, rfl, rfl, D10⟩ := hcut
      obtain ⟨A10, c10, rfl, _⟩ := own_slice D10.out.both.row
      have J8 : Hid (∀ k, Foot g v8 k → ¬ Foot g7 v7 k) := Lib.hid (fun k hk h => by
        have h2 := L7.out k h
        rcases foot_after D8.out.at_ k hk with h3 | h3
        · have := (H5.out.stk.foot_lt k h3).2; have := F6.out.size; omega
        · omega)
      have J9 : Hid (∀ k, (Value.slice A8 l8.length c8).ownBlock = some k → ¬ Foot g7 v7 k) := Lib.hid (fun k hk h => by
        have h2 := L7.out k h
        rcases D8.out.bat with h3 | ⟨j, h3, h4⟩
        · have := bl5.out k (by rw [← h3]; exact hk); have := F6.out.size; omega
        · rw [h3] at hk; injection hk with hk; omega)
      have J7 : Hid (¬ Foot g7 v7 b8) := Lib.hid (fun h => by have := (L7.out _ h).2; have := D8.out.new; omega)
      have X9 : Hid (Both wc w.heap.size g v8 (.slice A8 l8.length c8) l8 r over8) := Lib.hid ⟨D8.out.both.stk.fr D10.out.fr J8.out, D10.out.fr.own D8.out.both.row J9.out, D8.out.both.sep⟩
      have K9 : Hid (wc.heap[b8]? = some (.cells #[.slice A8 l8.length c8, .int .i64 r, .bool over8] 35 (0, 0))) := Lib.hid (D10.out.fr.blk D8.out.blk J7.out)
      have B9 : Hid (Below w.heap.size w wc) := Lib.hid (B8.out.trans (P8.out.stk.below D10.out.fr B8.out.size))
      clear k0 k1 k2 Y0 Y1 Y2 nn7
      go_wp2_with fail
      refine (pop_nil _).mono ?_
      rintro e w11 ⟨rfl, hb11⟩
      have G11 := Lib.hid (show Fr No wc w11 from Fr.then_below (by repeat (first | exact Fr.refl _ _ | apply Fr.drewN | apply Fr.drew | apply Fr.alloc)) hb11)
      have OD11 : Hid (Odd w11 wc.heap.size) := Lib.hid ((hb11.block wc.heap.size (by simp)).trans (heap_alloc_new wc _))
      clear hb11
      go_upto_region 11 with (fail)
      generalize hwx : w11.alloc (.cells #[.int .i64 0, .int .i64 0] 29) = wx
      have GX : Hid (Fr No w11 wx) := Lib.hid (by rw [← hwx]; exact Fr.alloc (Fr.refl _ _) _)
      have EX : Hid (wx.heap[w11.heap.size]? = some (.cells #[.int .i64 0, .int .i64 0] 29 (0, 0))) := Lib.hid (by rw [← hwx]; exact heap_alloc_new _ _)
      have OX : Hid (Odd wx wc.heap.size) := Lib.hid (OD11.out.fr GX.out)
      clear hwx
      obtain ⟨we, rfl⟩ : ∃ we : World, we = wc := ⟨_, rfl⟩
      go_cut [21, 22] from 21 to 66 (fun v21 v22 wq => ∃ b21, v21 = .pointer (some ⟨b21, 0, none⟩) ∧ v22 = .bool false ∧ Hid (wq.heap[b21]? = some (.cells #[.int .i64 0, .int .i64 0] 29 (0, 0))) ∧ Hid (Fr No wx wq))
      case first =>
        go_wp2_with fail
        refine (pop_odd we.heap.size _ OX.out).mono ?_
        rintro e w12 ⟨rfl, hb12⟩
        have G12 := Lib.hid (show Fr No wx w12 from Fr.of_below hb12 No)
        clear hb12
        go_wp2
        go_meet
        case rel => exact ⟨_, rfl, rfl, Lib.hid (heap_alloc_new _ _), Lib.hid (G12.out.alloc _)⟩
      case rest =>
      obtain ⟨b21, rfl, rfl, EB, GQ⟩ := hcut
      obtain ⟨wq, rfl⟩ : ∃ wq : World, wq = wc := ⟨_, rfl⟩
      have EA := Lib.hid (GQ.out.blk EX.out (fun h => h))
      have OD : Hid (Odd wq we.heap.size) := Lib.hid (OX.out.fr GQ.out)
      have W9 : Hid (Fr No we wq) := Lib.hid ((G11.out.trans GX.out (fun i (h : No i) => h.elim)).trans GQ.out (fun i (h : No i) => h.elim))
      have KX := Lib.hid (W9.out.blk K9.out (fun h => h))
      have KY := Lib.hid (W9.out.blk D10.out.blk (fun h => h))
      have X := Lib.hid (X9.out.fr W9.out)
      have Y := Lib.hid (D10.out.both.fr W9.out)
      have LX : Hid (l8.length ≤ 256) := Lib.hid (by have := X.out.stk.len; have := X.out.stk.r1; omega)
      have LY : Hid (l10.length ≤ 256) := Lib.hid (by have := Y.out.stk.len; have := Y.out.stk.r1; omega)
      have m0 : wq.cell? ⟨b8, 0, none⟩ = some (.slice A8 l8.length c8) := cell_of KX.out 0
      have M0 := Lib.hid m0
      have m1 : wq.cell? ⟨b10, 0, none⟩ = some (.slice A10 l10.length c10) := cell_of KY.out 0
      have M1 := Lib.hid m1
      have m2 : wq.cell? ⟨w11.heap.size, 0, none⟩ = some (.int .i64 0) := cell_of EA.out 0
      have M2 := Lib.hid m2
      have m3 : wq.cell? ⟨w11.heap.size, 1, none⟩ = some (.int .i64 0) := cell_of EA.out 1
      have M3 := Lib.hid m3
      have m4 : wq.cell? ⟨b21, 0, none⟩ = some (.int .i64 0) := cell_of EB.out 0
      have M4 := Lib.hid m4
      have m5 : wq.cell? ⟨b21, 1, none⟩ = some (.int .i64 0) := cell_of EB.out 1
      have M5 := Lib.hid m5
      have nm0 := World.new_ne wq _ m0
      have nm1 := World.new_ne wq _ m1
      have nm2 := World.new_ne wq _ m2
      have nm4 := World.new_ne wq _ m4
      go_wp2_with fail
      as_aux_lemma =>
        (try simp only [List.append])
        go_region_held3 (fun w' => w'.cell? ⟨b8, 0, none⟩ = some (.slice A8 l8.length c8) ∧ w'.cell? ⟨b10, 0, none⟩ = some (.slice A10 l10.length c10) ∧ w'.cell? ⟨w11.heap.size, 0, none⟩ = some (.int .i64 0) ∧ w'.cell? ⟨w11.heap.size, 1, none⟩ = some (.int .i64 0) ∧ w'.cell? ⟨b21, 0, none⟩ = some (.int .i64 0) ∧ w'.cell? ⟨b21, 1, none⟩ = some (.int .i64 0))
          (((try go_split_ands); refine ⟨?_, ?_, ?_, ?_, ?_, ?_⟩ <;> (first | with_reducible assumption | (with_reducible exact F21.out.cell M0.out (fun h => h)) | (with_reducible exact F20.out.cell M0.out (fun h => h)) | (with_reducible exact F21.out.cell M1.out (fun h => h)) | (with_reducible exact F20.out.cell M1.out (fun h => h)) | (with_reducible exact F21.out.cell M2.out (fun h => h)) | (with_reducible exact F20.out.cell M2.out (fun h => h)) | (with_reducible exact F21.out.cell M3.out (fun h => h)) | (with_reducible exact F20.out.cell M3.out (fun h => h)) | (with_reducible exact F21.out.cell M4.out (fun h => h)) | (with_reducible exact F20.out.cell M4.out (fun h => h)) | (with_reducible exact F21.out.cell M5.out (fun h => h)) | (with_reducible exact F20.out.cell M5.out (fun h => h)) | (with_reducible exact (Fr.drewN F21.out _).cell M0.out (fun h => h)) | (with_reducible exact (Fr.drewN F20.out _).cell M0.out (fun h => h)) | (with_reducible exact (Fr.drewN F21.out _).cell M1.out (fun h => h)) | (with_reducible exact (Fr.drewN F20.out _).cell M1.out (fun h => h)) | (with_reducible exact (Fr.drewN F21.out _).cell M2.out (fun h => h)) | (with_reducible exact (Fr.drewN F20.out _).cell M2.out (fun h => h)) | (with_reducible exact (Fr.drewN F21.out _).cell M3.out (fun h => h)) | (with_reducible exact (Fr.drewN F20.out _).cell M3.out (fun h => h)) | (with_reducible exact (Fr.drewN F21.out _).cell M4.out (fun h => h)) | (with_reducible exact (Fr.drewN F20.out _).cell M4.out (fun h => h)) | (with_reducible exact (Fr.drewN F21.out _).cell M5.out (fun h => h)) | (with_reducible exact (Fr.drewN F20.out _).cell M5.out (fun h => h)) | (go_keep; done))))
          ((first
            | (go_at_call 16; (with_reducible refine (all_any w.heap.size g v8 l8 r over8 _ (X.out.fr (by repeat (first | exact Fr.refl _ _ | apply Fr.drewN | apply Fr.drew | apply Fr.alloc))).stk).mono ?_); rintro e w20 ⟨v20, rfl, hown, hbb⟩; obtain ⟨A20, c20, rfl, _⟩ := own_slice hown; have F20 := Lib.hid (show Fr No wq w20 from Fr.then_below (by repeat (first | exact Fr.refl _ _ | apply Fr.drewN | apply Fr.drew | apply Fr.alloc)) hbb); have O20 := Lib.hid hown; clear hown hbb)
            | (go_at_call 15; (with_reducible refine (same_any A20 A8 c20 c8 l8 _ (Rd.of_own (Fr.own (S := No) (w := w20) (by repeat (first | exact Fr.refl _ _ | apply Fr.drewN | apply Fr.drew | apply Fr.alloc)) O20.out (fun _ _ h => h)) (ents_one l8)) (Rd.of_own (Fr.own (S := No) (w := wq) (by repeat (first | with_reducible exact F21.out | with_reducible exact F20.out | exact Fr.refl _ _ | apply Fr.drewN | apply Fr.drew | apply Fr.alloc)) X.out.row (fun _ _ h => h)) (ents_one l8)) LX.out).mono ?_); rintro e wz ⟨rfl, nz, rfl⟩)
            | (go_at_call 16; (with_reducible refine (all_any w.heap.size g7 v10 l10 r over10 _ (Y.out.fr (by repeat (first | with_reducible exact F21.out | with_reducible exact F20.out | exact Fr.refl _ _ | apply Fr.drewN | apply Fr.drew | apply Fr.alloc))).stk).mono ?_); rintro e w21 ⟨v21, rfl, hown, hbb⟩; obtain ⟨A21, c21, rfl, _⟩ := own_slice hown; have F21 := Lib.hid (show Fr No wq w21 from Fr.then_below (by repeat (first | with_reducible exact F21.out | with_reducible exact F20.out | exact Fr.refl _ _ | apply Fr.drewN | apply Fr.drew | apply Fr.alloc)) hbb); have O21 := Lib.hid hown; clear hown hbb)
            | (go_at_call 15; (with_reducible refine (same_any A21 A10 c21 c10 l10 _ (Rd.of_own (Fr.own (S := No) (w := w21) (by repeat (first | exact Fr.refl _ _ | apply Fr.drewN | apply Fr.drew | apply Fr.alloc)) O21.out (fun _ _ h => h)) (ents_one l10)) (Rd.of_own (Fr.own (S := No) (w := wq) (by repeat (first | with_reducible exact F21.out | with_reducible exact F20.out | exact Fr.refl _ _ | apply Fr.drewN | apply Fr.drew | apply Fr.alloc)) Y.out.row (fun _ _ h => h)) (ents_one l10)) LY.out).mono ?_); rintro e wz ⟨rfl, nz, rfl⟩)
            | (go_at_call 9; (with_reducible refine (push_nil 0 0 _).mono ?_); rintro e wz ⟨rfl, hbb⟩; have F21 := Lib.hid (show Fr No wq wz from Fr.then_below (by repeat (first | with_reducible exact F21.out | with_reducible exact F20.out | exact Fr.refl _ _ | apply Fr.drewN | apply Fr.drew | apply Fr.alloc)) hbb); clear hbb)
            | (go_at_call 9; (with_reducible refine (push_odd we.heap.size 0 0 _ (OD.out.fr (by repeat (first | with_reducible exact F21.out | with_reducible exact F20.out | exact Fr.refl _ _ | apply Fr.drewN | apply Fr.drew | apply Fr.alloc)))).mono ?_); rintro e wz ⟨rfl, hbb⟩; have F21 := Lib.hid (show Fr No wq wz from Fr.then_below (by repeat (first | with_reducible exact F21.out | with_reducible exact F20.out | exact Fr.refl _ _ | apply Fr.drewN | apply Fr.drew | apply Fr.alloc)) hbb); clear hbb)
            | (go_at_call 17; (with_reducible refine (len_nil _).mono ?_); rintro e wz ⟨rfl, nz, rfl⟩)
            | (go_at_call 10; (with_reducible refine (over_nil _).mono ?_); rintro e wz ⟨rfl, nz, rfl⟩)
            | (go_at_call 10; (with_reducible refine (over_odd we.heap.size _ (OD.out.fr (by repeat (first | with_reducible exact F21.out | with_reducible exact F20.out | exact Fr.refl _ _ | apply Fr.drewN | apply Fr.drew | apply Fr.alloc)))).mono ?_); rintro e wz ⟨rfl, nz, rfl⟩)
            | (go_at_call 18; (with_reducible refine (settle_nil _).mono ?_); rintro e wz ⟨rfl, nz, rfl⟩)
            | (go_at_call 16; (with_reducible refine (all_nil _).mono ?_); rintro e wz ⟨rfl, nz, rfl⟩)
            | (go_at_call 14; (with_reducible refine (clone_nil _).mono ?_); rintro e wz ⟨rfl, nz, rfl⟩)
            | (go_at_call 14; (with_reducible refine (clone_odd we.heap.size _ (OD.out.fr (by repeat (first | with_reducible exact F21.out | with_reducible exact F20.out | exact Fr.refl _ _ | apply Fr.drewN | apply Fr.drew | apply Fr.alloc)))).mono ?_); rintro e wz ⟨rfl, nz, rfl⟩)))
        go_wp2
        go_ret
        exact ⟨rfl, ((Fr.of_below B9.out No).trans (W9.out.trans (S' := No) (by repeat (first | with_reducible exact F21.out | with_reducible exact F20.out | exact Fr.refl _ _ | apply Fr.drewN | apply Fr.drew | apply Fr.alloc)) (fun i (h : No i) => h.elim)) (fun i (h : No i) => h.elim)).below (Nat.le_refl _) (fun _ h => h.elim)⟩

end Go.Proofs.Ytmgdlblifeammaa.StackTop
