/- Proved: the law EpochClones of package scutagelaw15 answers true of any scripts. -/
import Derived.Test.YtneogdjogdbmcaaEpochRuns
namespace Go.Proofs.Ytneogdjogdbmcaa.EpochClones
open Go.RowKit Go.Proofs.Ytneogdjogdbmcaa.H Go.Proofs.Ytneogdjogdbmcaa.Nums Go.Proofs.Ytneogdjogdbmcaa.Epoch Go.Proofs.Ytneogdjogdbmcaa.EpochLaw Go.Proofs.Ytneogdjogdbmcaa.EpochTold Go.Proofs.Ytneogdjogdbmcaa.EpochStep Go.Proofs.Ytneogdjogdbmcaa.EpochAlive Go.Proofs.Ytneogdjogdbmcaa.EpochRun
open Go.Proofs.Ytneogdjogdbmcaa.EpochAgrees (calls call_at calls_cut)

theorem row_sep {w : World} {B B' g : Nat} {v bv : Value} {l : List Mb} {e : Int} {xs : List Int} (hr : Reg w B' g v l e) (ho : Own w B bv xs) : ∀ k, bv.ownBlock = some k → ¬ Foot g v k := by
  rintro k hk (rfl | hv)
  · exact own_ne_blk ho hr.blk (by decide) hk
  · rcases hr.own.2 with ⟨rfl, _⟩ | ⟨d, cap, cur, rfl, _, hd, _⟩
    · simp [Value.ownBlock] at hv
    · simp [Value.ownBlock] at hv
      subst hv
      exact own_ne_blk ho hd (by decide) hk

structure RunDone (B g : Nat) (v : Value) (N : Int) (wo wc : World) (b : Nat) (bv' : Value) (l' : List Mb) (e' : Int) : Prop where
  blk : wc.heap[b]? = some (.cells #[bv', .int .i64 e'] 26 (0, 0))
  both : Both wc B g v bv' l' e'
  fr : Fr (Foot g v) wo wc
  new : wo.heap.size ≤ b
  less : e' ≤ N

theorem RunDone.set {B g : Nat} {v : Value} {N : Int} {wo w8 : World} {bv' : Value} {l' : List Mb} {e' : Int} (hb : Both w8 B g v bv' l' e') (hf : Fr (Foot g v) wo w8) (hN : e' ≤ N)
    (hz : w8.heap[wo.heap.size]? = some (.cells #[.slice none 0 0, .int .i64 0] 26 (0, 0))) :
    RunDone B g v N wo ((w8.setCell ⟨wo.heap.size, 0, none⟩ bv').setCell ⟨wo.heap.size, 1, none⟩ (.int .i64 e')) wo.heap.size bv' l' e' := by
  have hs : Fr (fun k => k = wo.heap.size) w8 ((w8.setCell ⟨wo.heap.size, 0, none⟩ bv').setCell ⟨wo.heap.size, 1, none⟩ (.int .i64 e')) := ((Fr.refl (fun k => k = wo.heap.size) w8).setCell (p := ⟨wo.heap.size, 0, none⟩) (.inl rfl) _).setCell (p := ⟨wo.heap.size, 1, none⟩) (.inl rfl) _
  have h1 : ¬ Foot g v wo.heap.size := by
    rintro (h | h)
    · exact ne_of_type hb.reg.blk hz (by decide) h.symm
    · exact own_ne_blk hb.reg.own hz (by decide) h
  have h2 := own_ne_blk hb.row hz (by decide)
  exact ⟨set2_of hz _ _, ⟨hb.reg.fr hs (fun k hk e => h1 (e ▸ hk)), hs.own hb.row (fun k hk e => h2 (e ▸ hk)), hb.inv⟩, hf.trans hs (fun i hi => .inr (by rw [hi]; exact Nat.le_refl _)), Nat.le_refl _, hN⟩

theorem RunDone.alloc {B g : Nat} {v : Value} {N : Int} {wo w8 : World} {bv' : Value} {l' : List Mb} {e' : Int} (hb : Both w8 B g v bv' l' e') (hf : Fr (Foot g v) wo w8) (hN : e' ≤ N) :
    RunDone B g v N wo (w8.alloc (.cells #[bv', .int .i64 e'] 26)) w8.heap.size bv' l' e' :=
  ⟨heap_alloc_new _ _, hb.fr (Fr.alloc (Fr.refl _ _) _), hf.alloc _, hf.size, hN⟩

theorem below_via {w w7 W X : World} (hb : Below w.heap.size w w7) (hf : Fr No w7 X) (hW : Below w.heap.size X W) : Below w.heap.size w W := (hb.trans (hf.below hb.size (fun _ h => h.elim))).trans hW

theorem quiet_same {f : Nat} {args : Array Value} {w : World} {r : Value} (h : Calls Try.prog f args w (Quiet w r)) : Calls Try.prog f args w (Same w r) :=
  h.mono (by rintro e w' ⟨rfl, n, rfl⟩; exact ⟨rfl, (Fr.drewN (Fr.refl No w) n).below (Nat.le_refl _) (fun _ h => h.elim)⟩)

set_option maxRecDepth 100000 in
set_option maxHeartbeats 12800000 in
theorem clones_any (n : Int) (va vb vc : Value) (la lb lc : List (Int × Int)) (w : World) (hra : Rd w va la.length 2 (calls la)) (hrb : Rd w vb lb.length 2 (calls lb)) (hrc : Rd w vc lc.length 2 (calls lc)) :
    Calls Try.prog 5 #[.int .i64 n, va, vb, vc] w (Same w (.bool true)) := by
  obtain ⟨Aa, ca, rfl, hca⟩ := hra.slice
  obtain ⟨Ab, cb, rfl, hcb⟩ := hrb.slice
  obtain ⟨Ac, cc, rfl, hcc⟩ := hrc.slice
  obtain ⟨r, hrm⟩ : ∃ r : Nat, max 0 (min n 8) = (r : Int) := ⟨(max 0 (min n 8)).toNat, by omega⟩
  have HRM := Lib.hid hrm
  have CA := Lib.hid hca
  have CB := Lib.hid hcb
  have CC := Lib.hid hcc
  have RA := Lib.hid hra
  have RB := Lib.hid hrb
  have RC := Lib.hid hrc
  have HA : Hid (atL (List.replicate r ((false, 0) : Mb)) = List.replicate r (-1)) := Lib.hid (by simp [atL])
  have HI0 : Hid (Inv (List.replicate r ((false, 0) : Mb)) 0) := Lib.hid ⟨by omega, by omega, fun k hk => by
    obtain ⟨j, he, hj⟩ := live_lt _ _ hk
    have he : k = j := by omega
    subst he
    rw [liveB_in _ k hj, List.getElem_replicate] at hk
    cases hk⟩
  clear hra hrb hrc hca hcb hcc hrm
  go_enter Try.func5, Try.ntmps5
  go_wp2_with fail
  refine (alive_any _).mono ?_
  rintro x1 w1 ⟨rfl, hb1⟩
  have B1 := Lib.hid hb1
  clear hb1
  go_wp2_with fail
  refine (new_any n r HRM.out _).mono ?_
  rintro x2 w2 ⟨g, v, rfl, hs2, hb2⟩
  have S2 := Lib.hid (hs2.lower B1.out.size)
  have B2 := Lib.hid (B1.out.trans (hb2.mono B1.out.size))
  clear hs2 hb2
  go_wp2_with fail
  refine (begin_any n r HRM.out _).mono ?_
  rintro x3 w3 ⟨v3, rfl, o3, h3⟩
  obtain ⟨A3, c3, rfl, _⟩ := o3.slice
  have P3 : Hid (Both w3 w.heap.size g v (.slice A3 (List.replicate r (-1 : Int)).length c3) (List.replicate r (false, 0)) 0) := Lib.hid ⟨S2.out.no (Fr.of_below h3 No), by rw [HA.out]; exact o3.lower B2.out.size, HI0.out⟩
  have B3 := Lib.hid (B2.out.trans (h3.mono B2.out.size))
  clear o3 h3
  obtain ⟨m3, hm3⟩ : ∃ m3, m3 = (List.replicate r (-1 : Int)).length := ⟨_, rfl⟩
  rw [← hm3] at P3 ⊢
  clear hm3
  go_wp2_with fail
  refine (few_any Aa _ ca _ CA.out).mono ?_
  rintro x4 w4 ⟨rfl, rfl⟩
  go_wp2_with fail
  with_reducible refine (run_cut w.heap.size g v _ _ 0 Aa ca la w _ P3.out B3.out.size RA.out (fun W hW => B3.out.trans hW) (by omega)).mono ?_
  rintro x5 w5 ⟨bv5, l5, e5, rfl, hb5, hf5, he5⟩
  obtain ⟨A5, c5, rfl, _⟩ := hb5.row.slice
  obtain ⟨n5, hn5⟩ : ∃ n5, n5 = (atL l5).length := ⟨_, rfl⟩
  rw [← hn5] at hb5 ⊢
  have P5 := Lib.hid hb5
  have E5 : Hid (e5 ≤ 50) := Lib.hid (by have := Nat.min_le_left 50 la.length; omega)
  have B5 := Lib.hid (B3.out.trans (P3.out.reg.below hf5 B3.out.size))
  clear hb5 hf5 he5 hn5
  go_wp2_with fail
  have N6 := Lib.hid (heap_alloc_new w5 (.cells #[.slice A5 n5 c5, .int .i64 e5] 26))
  have F6 := Lib.hid ((Fr.refl No w5).alloc (.cells #[.slice A5 n5 c5, .int .i64 e5] 26))
  have hz6 : (w5.alloc (.cells #[.slice A5 n5 c5, .int .i64 e5] 26)).heap.size = w5.heap.size + 1 := by simp
  generalize w5.alloc (.cells #[.slice A5 n5 c5, .int .i64 e5] 26) = w6 at N6 F6 hz6 ⊢
  have P6 := Lib.hid (P5.out.fr F6.out)
  refine (clone_any w.heap.size g v l5 e5 _ P6.out.reg).mono ?_
  rintro x7 w7 ⟨g2, v2, rfl, hs7, hb7⟩
  have S7 := Lib.hid hs7
  have F7 := Lib.hid (Fr.of_below hb7 No)
  have P7 := Lib.hid (P6.out.fr F7.out)
  have B7 := Lib.hid (B5.out.trans ((F6.out.trans F7.out (fun i h => h.elim)).below B5.out.size (fun _ h => h.elim)))
  have N7 := Lib.hid (F7.out.blk N6.out (fun h => h))
  have FT := Lib.hid (show ∀ k, Foot g v k → w.heap.size ≤ k ∧ k < w5.heap.size from P5.out.reg.foot_lt)
  have FT2 := Lib.hid (show ∀ k, Foot g2 v2 k → w6.heap.size ≤ k ∧ k < w7.heap.size from S7.out.foot_lt)
  clear hs7 hb7
  have NFw7 : Hid (¬ Foot g v w5.heap.size) := Lib.hid (fun h => by have := (FT.out _ h).2; omega)
  have NZw7 : Hid (¬ Foot g v w7.heap.size) := Lib.hid (fun h => by have := (FT.out _ h).2; have := F6.out.size; have := F7.out.size; omega)
  have k0 : w7.cell? ⟨w5.heap.size, 0, none⟩ = some (.slice A5 n5 c5) := cell_of N7.out 0
  have k1 : w7.cell? ⟨w5.heap.size, 1, none⟩ = some (.int .i64 e5) := cell_of N7.out 1
  have nn7 := World.new_ne w7 _ k0
  have Y0 := Lib.hid k0
  have Y1 := Lib.hid k1
  go_upto_region 6 with (fail)
  go_cut [13, 14] (fun v13 v14 wc => ∃ b bv8 l8 e8, v13 = .pointer (some ⟨b, 0, none⟩) ∧ v14 = .bool true ∧ Hid (RunDone w.heap.size g v 100 w7 wc b bv8 l8 e8))
  case first => as_aux_lemma =>
    go_region_held3 (fun w' => w'.cell? ⟨w5.heap.size, 0, none⟩ = some (.slice A5 n5 c5) ∧ w'.cell? ⟨w5.heap.size, 1, none⟩ = some (.int .i64 e5))
      (((try go_split_ands); refine ⟨?_, ?_⟩ <;> (first | with_reducible assumption | (with_reducible exact F8.out.cell Y0.out NFw7.out) | (with_reducible exact F8.out.cell Y1.out NFw7.out) | (with_reducible exact (Fr.alloc (Fr.refl No w8) _).cell (F8.out.cell Y0.out NFw7.out) (fun h => h)) | (with_reducible exact (Fr.alloc (Fr.refl No w8) _).cell (F8.out.cell Y1.out NFw7.out) (fun h => h)) | (go_keep; done))))
      ((first
        | (go_at_call 10; refine (few_any Ab _ cb _ CB.out).mono ?_; rintro x8 wf ⟨rfl, hwf⟩; subst hwf)
        | (go_at_call 7; (with_reducible refine (run_cut w.heap.size g v _ l5 e5 Ab cb lb w _ (P7.out.fr (by repeat (first | exact Fr.refl _ _ | apply Fr.drewN | apply Fr.drew | apply Fr.alloc))) (by have h := B7.out.size; simp; omega) RB.out (fun W hW => below_via B7.out (by repeat (first | exact Fr.refl _ _ | apply Fr.drewN | apply Fr.drew | apply Fr.alloc)) hW) (by have := E5.out; omega)).mono ?_); rintro x8 w8 ⟨bv8, l8, e8, rfl, hb8, hf8, he8⟩; obtain ⟨A8, c8, rfl, _⟩ := hb8.row.slice; obtain ⟨n8, hn8⟩ : ∃ n8, n8 = (atL l8).length := ⟨_, rfl⟩; rw [← hn8] at hb8 ⊢; clear hn8; (try (have z8 : w8.heap[w7.heap.size]? = some (.cells #[.slice none 0 0, .int .i64 0] 26 (0, 0)) := hf8.blk (heap_alloc_new w7 _) NZw7.out; have z80 : w8.cell? ⟨w7.heap.size, 0, none⟩ = some (.slice none 0 0) := cell_of z8 0; have z81 : w8.cell? ⟨w7.heap.size, 1, none⟩ = some (.int .i64 0) := cell_of z8 1; have q80 := free_of z8 0; have q81 := free_of z8 1; have Z8 := Lib.hid z8; clear z8)); have F8 := Lib.hid (show Fr (Foot g v) w7 w8 from Fr.trans (by repeat (first | exact Fr.refl _ _ | apply Fr.drewN | apply Fr.drew | apply Fr.alloc)) hf8 (fun i hi => .inl hi)); have H8 := Lib.hid hb8; have E8 : Hid (e8 ≤ 100) := Lib.hid (by have := Nat.min_le_left 50 lb.length; have := E5.out; omega); have nn8 := World.new_ne w8 _ (F8.out.cell Y0.out NFw7.out); clear hb8 hf8 he8)))
    all_goals
      go_wp2
      go_meet
      case rel =>
        first
        | exact ⟨_, _, l8, e8, rfl, rfl, Lib.hid (RunDone.alloc H8.out F8.out E8.out)⟩
        | exact ⟨_, _, l8, e8, rfl, rfl, Lib.hid (RunDone.set H8.out F8.out E8.out Z8.out)⟩
  case rest =>
    obtain ⟨b8, bv8, l8, e8, rfl, rfl, D8⟩ := hcut
    obtain ⟨wb, rfl⟩ : ∃ wb : World, wb = wc := ⟨_, rfl⟩
    obtain ⟨A8, c8, rfl, _⟩ := D8.out.both.row.slice
    obtain ⟨n8, hn8⟩ : ∃ n8, n8 = (atL l8).length := ⟨_, rfl⟩
    rw [← hn8] at D8
    clear hn8
    have E7 : Hid (∀ k, Foot g2 v2 k → ¬ Foot g v k) := Lib.hid (fun k hk h => by have := (FT2.out k hk).1; have := (FT.out k h).2; have := F6.out.size; omega)
    have P8 : Hid (Both wb w.heap.size g2 v2 (.slice A5 n5 c5) l5 e5) := Lib.hid ⟨Reg.lower (S7.out.fr D8.out.fr E7.out) (by have := B5.out.size; have := F6.out.size; omega), D8.out.fr.own P7.out.row (row_sep P7.out.reg P7.out.row), P7.out.inv⟩
    have B8 : Hid (Below w.heap.size w wb) := Lib.hid (B7.out.trans (P7.out.reg.below D8.out.fr B7.out.size))
    have K8 := Lib.hid (D8.out.fr.blk N7.out NFw7.out)
    have NFwb : Hid (¬ Foot g2 v2 w5.heap.size) := Lib.hid (fun h => by have := (FT2.out _ h).1; omega)
    have NZwb : Hid (¬ Foot g2 v2 wb.heap.size) := Lib.hid (fun h => by have := (P8.out.reg.foot_lt _ h).2; omega)
    clear k0 k1 Y0 Y1 nn7
    have k0 : wb.cell? ⟨w5.heap.size, 0, none⟩ = some (.slice A5 n5 c5) := cell_of K8.out 0
    have k1 : wb.cell? ⟨w5.heap.size, 1, none⟩ = some (.int .i64 e5) := cell_of K8.out 1
    have nn7 := World.new_ne wb _ k0
    have Y0 := Lib.hid k0
    have Y1 := Lib.hid k1
    go_upto_region 7 with (fail)
    go_cut [15, 16] (fun v13 v14 wc => ∃ b bv8 l8 e8, v13 = .pointer (some ⟨b, 0, none⟩) ∧ v14 = .bool true ∧ Hid (RunDone w.heap.size g2 v2 100 wb wc b bv8 l8 e8))
    case first => as_aux_lemma =>
      go_region_held3 (fun w' => w'.cell? ⟨w5.heap.size, 0, none⟩ = some (.slice A5 n5 c5) ∧ w'.cell? ⟨w5.heap.size, 1, none⟩ = some (.int .i64 e5))
        (((try go_split_ands); refine ⟨?_, ?_⟩ <;> (first | with_reducible assumption | (with_reducible exact F8.out.cell Y0.out NFwb.out) | (with_reducible exact F8.out.cell Y1.out NFwb.out) | (with_reducible exact (Fr.alloc (Fr.refl No w8) _).cell (F8.out.cell Y0.out NFwb.out) (fun h => h)) | (with_reducible exact (Fr.alloc (Fr.refl No w8) _).cell (F8.out.cell Y1.out NFwb.out) (fun h => h)) | (go_keep; done))))
        ((first
          | (go_at_call 10; refine (few_any Ac _ cc _ CC.out).mono ?_; rintro x8 wf ⟨rfl, hwf⟩; subst hwf)
          | (go_at_call 7; (with_reducible refine (run_cut w.heap.size g2 v2 _ l5 e5 Ac cc lc w _ (P8.out.fr (by repeat (first | exact Fr.refl _ _ | apply Fr.drewN | apply Fr.drew | apply Fr.alloc))) (by have h := B8.out.size; simp; omega) RC.out (fun W hW => below_via B8.out (by repeat (first | exact Fr.refl _ _ | apply Fr.drewN | apply Fr.drew | apply Fr.alloc)) hW) (by have := E5.out; omega)).mono ?_); rintro x8 w8 ⟨bv8, l8, e8, rfl, hb8, hf8, he8⟩; obtain ⟨A8, c8, rfl, _⟩ := hb8.row.slice; obtain ⟨n8, hn8⟩ : ∃ n8, n8 = (atL l8).length := ⟨_, rfl⟩; rw [← hn8] at hb8 ⊢; clear hn8; (try (have z8 : w8.heap[wb.heap.size]? = some (.cells #[.slice none 0 0, .int .i64 0] 26 (0, 0)) := hf8.blk (heap_alloc_new wb _) NZwb.out; have z80 : w8.cell? ⟨wb.heap.size, 0, none⟩ = some (.slice none 0 0) := cell_of z8 0; have z81 : w8.cell? ⟨wb.heap.size, 1, none⟩ = some (.int .i64 0) := cell_of z8 1; have q80 := free_of z8 0; have q81 := free_of z8 1; have Z8 := Lib.hid z8; clear z8)); have F8 := Lib.hid (show Fr (Foot g2 v2) wb w8 from Fr.trans (by repeat (first | exact Fr.refl _ _ | apply Fr.drewN | apply Fr.drew | apply Fr.alloc)) hf8 (fun i hi => .inl hi)); have H8 := Lib.hid hb8; have E8 : Hid (e8 ≤ 100) := Lib.hid (by have := Nat.min_le_left 50 lc.length; have := E5.out; omega); have nn8 := World.new_ne w8 _ (F8.out.cell Y0.out NFwb.out); clear hb8 hf8 he8)))
      all_goals
        go_wp2
        go_meet
        case rel =>
          first
          | exact ⟨_, _, l8, e8, rfl, rfl, Lib.hid (RunDone.alloc H8.out F8.out E8.out)⟩
          | exact ⟨_, _, l8, e8, rfl, rfl, Lib.hid (RunDone.set H8.out F8.out E8.out Z8.out)⟩
    case rest =>
      obtain ⟨b10, bv10, l10, e10, rfl, rfl, D10⟩ := hcut
      obtain ⟨A10, c10, rfl, _⟩ := D10.out.both.row.slice
      obtain ⟨n10, hn10⟩ : ∃ n10, n10 = (atL l10).length := ⟨_, rfl⟩
      rw [← hn10] at D10
      clear hn10
      have J8 : Hid (∀ k, Foot g v k → ¬ Foot g2 v2 k) := Lib.hid (fun k hk h => E7.out k h hk)
      have J7 : Hid (¬ Foot g2 v2 b8) := Lib.hid (fun h => by have := (FT2.out _ h).2; have := D8.out.new; omega)
      have X9 : Hid (Both wc w.heap.size g v (.slice A8 n8 c8) l8 e8) := Lib.hid ⟨D8.out.both.reg.fr D10.out.fr J8.out, D10.out.fr.own D8.out.both.row (row_sep P8.out.reg D8.out.both.row), D8.out.both.inv⟩
      have K9 := Lib.hid (D10.out.fr.blk D8.out.blk J7.out)
      have B9 : Hid (Below w.heap.size w wc) := Lib.hid (B8.out.trans (P8.out.reg.below D10.out.fr B8.out.size))
      clear k0 k1 Y0 Y1 nn7
      go_upto_region 10 with (fail)
      have O := Lib.hid (show Odd (wc.alloc (.cells #[.bool false, .int .i64 0, .slice none 0 0] 45)) wc.heap.size from heap_alloc_new _ _)
      have FQ : Hid (Fr No wc (wc.alloc (.cells #[.bool false, .int .i64 0, .slice none 0 0] 45))) := Lib.hid ((Fr.refl No wc).alloc _)
      generalize wc.alloc (.cells #[.bool false, .int .i64 0, .slice none 0 0] 45) = wq at O FQ ⊢
      have KX := Lib.hid (FQ.out.blk K9.out (fun h => h))
      have KY := Lib.hid (FQ.out.blk D10.out.blk (fun h => h))
      have X := Lib.hid (X9.out.fr FQ.out)
      have Y := Lib.hid (D10.out.both.fr FQ.out)
      have m0 := cell_of KX.out 0
      have m1 := cell_of KX.out 1
      go_wp2_with fail
      with_reducible refine (told_any w.heap.size g v _ l8 e8 _ X.out).mono ?_
      rintro x11 w11 ⟨rfl, hb11⟩
      have G1 := Lib.hid (Fr.of_below hb11 No)
      clear hb11 m0 m1
      have m0 := cell_of (G1.out.blk KY.out (fun h => h)) 0
      have m1 := cell_of (G1.out.blk KY.out (fun h => h)) 1
      go_wp2_with fail
      with_reducible refine (told_any w.heap.size g2 v2 _ l10 e10 _ (Y.out.fr G1.out)).mono ?_
      rintro x12 w12 ⟨rfl, hb12⟩
      have G2 := Lib.hid (G1.out.then_below hb12)
      clear hb12 m0 m1
      go_wp2_with fail
      with_reducible refine (quiet_same (attach_nil 0 _)).mono ?_
      rintro x13 w13 ⟨rfl, hb13⟩
      have G3 := Lib.hid (G2.out.then_below hb13)
      clear hb13
      go_wp2_with fail
      with_reducible refine (quiet_same (attach_odd _ _ (O.out.fr G3.out))).mono ?_
      rintro x14 w14 ⟨rfl, hb14⟩
      have G4 := Lib.hid (G3.out.then_below hb14)
      clear hb14
      go_wp2_with fail
      with_reducible refine (quiet_same (detach_nil 0 _)).mono ?_
      rintro x15 w15 ⟨rfl, hb15⟩
      have G5 := Lib.hid (G4.out.then_below hb15)
      clear hb15
      go_wp2_with fail
      with_reducible refine (quiet_same (live_nil 0 _)).mono ?_
      rintro x16 w16 ⟨rfl, hb16⟩
      have G6 := Lib.hid (G5.out.then_below hb16)
      clear hb16
      go_wp2_with fail
      with_reducible refine (quiet_same (confirm_nil 0 _)).mono ?_
      rintro x17 w17 ⟨rfl, hb17⟩
      have G7 := Lib.hid (G6.out.then_below hb17)
      clear hb17
      go_wp2_with fail
      with_reducible refine (quiet_same (raise_nil _)).mono ?_
      rintro x18 w18 ⟨rfl, hb18⟩
      have G8 := Lib.hid (G7.out.then_below hb18)
      clear hb18
      go_wp2_with fail
      with_reducible refine (quiet_same (raise_odd _ _ (O.out.fr G8.out))).mono ?_
      rintro x19 w19 ⟨rfl, hb19⟩
      have G9 := Lib.hid (G8.out.then_below hb19)
      clear hb19
      go_wp2_with fail
      with_reducible refine (quiet_same (epoch_nil _)).mono ?_
      rintro x20 w20 ⟨rfl, hb20⟩
      have G10 := Lib.hid (G9.out.then_below hb20)
      clear hb20
      go_wp2_with fail
      with_reducible refine (quiet_same (epoch_odd _ _ (O.out.fr G10.out))).mono ?_
      rintro x21 w21 ⟨rfl, hb21⟩
      have G11 := Lib.hid (G10.out.then_below hb21)
      clear hb21
      go_wp2_with fail
      with_reducible refine (quiet_same (of_nil 0 _)).mono ?_
      rintro x22 w22 ⟨rfl, hb22⟩
      have G12 := Lib.hid (G11.out.then_below hb22)
      clear hb22
      go_wp2_with fail
      with_reducible refine (agreed_nil _).mono ?_
      rintro x23 w23 ⟨rfl, hb23⟩
      have G13 := Lib.hid (G12.out.then_below hb23)
      clear hb23
      go_wp2_with fail
      with_reducible refine (agreed_odd _ _ (O.out.fr G13.out)).mono ?_
      rintro x24 w24 ⟨rfl, hb24⟩
      have G14 := Lib.hid (G13.out.then_below hb24)
      clear hb24
      go_wp2_with fail
      with_reducible refine (least_nil _).mono ?_
      rintro x25 w25 ⟨rfl, hb25⟩
      have G15 := Lib.hid (G14.out.then_below hb25)
      clear hb25
      go_wp2_with fail
      with_reducible refine (all_nil _).mono ?_
      rintro x26 w26 ⟨rfl, hb26⟩
      have G16 := Lib.hid (G15.out.then_below hb26)
      clear hb26
      go_wp2_with fail
      with_reducible refine (behind_nil _).mono ?_
      rintro x27 w27 ⟨rfl, hb27⟩
      have G17 := Lib.hid (G16.out.then_below hb27)
      clear hb27
      go_wp2_with fail
      with_reducible refine (quiet_same (clone_nil _)).mono ?_
      rintro x28 w28 ⟨rfl, hb28⟩
      have G18 := Lib.hid (G17.out.then_below hb28)
      clear hb28
      go_wp2_with fail
      with_reducible refine (quiet_same (clone_odd _ _ (O.out.fr G18.out))).mono ?_
      rintro x29 w29 ⟨rfl, hb29⟩
      have G19 := Lib.hid (G18.out.then_below hb29)
      clear hb29
      go_wp2_with fail
      go_ret
      exact ⟨rfl, ((Fr.of_below B9.out No).trans (FQ.out.trans G19.out (fun i (h : No i) => h.elim)) (fun i (h : No i) => h.elim)).below (Nat.le_refl _) (fun _ h => h.elim)⟩

end Go.Proofs.Ytneogdjogdbmcaa.EpochClones
