/- Proved: the law ShadeClones of package scutagelaw18 over any arguments. -/
import Derived.Test.YtoipjmhfeggdeaaDoorShadeReplay
namespace Go.Proofs.YtoipjmhfeggdeaaDoor.ShadeClones
open Go.RowKit Go.Proofs.YtoipjmhfeggdeaaDoor.H Go.Proofs.YtoipjmhfeggdeaaDoor.Nums Go.Proofs.YtoipjmhfeggdeaaDoor.BitPure Go.Proofs.YtoipjmhfeggdeaaDoor.Shade Go.Proofs.YtoipjmhfeggdeaaDoor.Ref18 Go.Proofs.YtoipjmhfeggdeaaDoor.ShadeBoth Go.Proofs.YtoipjmhfeggdeaaDoor.ShadeStep Go.Proofs.YtoipjmhfeggdeaaDoor.ShadeRun Go.Proofs.YtoipjmhfeggdeaaDoor.ShadeNil
set_option linter.unusedVariables false
set_option linter.unusedSimpArgs false
attribute [local irreducible] elems from_ nxt elemsN rc zCells

theorem G_lower {w : World} {B B' gg : Nat} {P : Pl} {v : Value} {l : List (Int × Int)} {room : Int} {over : Bool} {ws : List Nat} (h : G w B gg P v l room over ws) (hB : B' ≤ B) : G w B' gg P v l room over ws :=
  ⟨h.grey, h.wait, Stk_lower h.stk hB, h.set.lower hB, Nat.le_trans hB h.bg, Nat.le_trans hB h.bw⟩

theorem R_lower {w : World} {B B' g : Nat} {v : Value} {l : List (Int × Int)} {room : Int} {over : Bool} {ws : List Nat} (h : R w B g v l room over ws) (hB : B' ≤ B) : R w B' g v l room over ws :=
  ⟨h.blk, own_lower h.own hB, Nat.le_trans hB h.base, h.r0, h.r1, h.len, h.ok⟩

/-- a grey, the reference's, and one more of the reference's apart -/
structure Three (w : World) (B gg gm gw : Nat) (P : Pl) (v vm vw : Value) (room : Int) (s sw : List (Int × Int) × Bool × List Nat) : Prop where
  both : Both w B gg gm P v vm s.1 room s.2.1 s.2.2
  more : R w B gw vw sw.1 room sw.2.1 sw.2.2
  sep : ∀ k, Stack.Foot gw vw k → ¬ Stack.Foot gm vm k

section
variable {w w' : World} {B gg gm gw : Nat} {P : Pl} {v vm vw : Value} {room : Int} {s sw s' : List (Int × Int) × Bool × List Nat}
theorem Three.apart (h : Three w B gg gm gw P v vm vw room s sw) : ∀ k, Stack.Foot gw vw k → ¬ feet gm P v vm k := fun k hk hf => hf.elim (fun h1 => ShadeBoth.sep h.both.g h.more k hk (.inr (.inr h1))) (h.sep k hk)

theorem Three.step {e : Ending} (h : Three w B gg gm gw P v vm vw room s sw) (hp : StepPost B gg gm P v vm room s' w e w') : ∃ v' vm', Three w' B gg gm gw P v' vm' vw room s' sw ∧ Fr (feet gm P v vm) w w' := by
  obtain ⟨_, v', vm', q1, q2, q3⟩ := hp
  refine ⟨v', vm', ⟨q1, h.more.fr q3 (fun k hk => h.apart k hk), fun k hk hf => ?_⟩, q3⟩
  rcases q2 k (.inr hf) with h1 | h1
  · exact h.apart k hk h1
  · have := (h.more.foot_lt k hk).2; omega

theorem Three.replay {e : Ending} {r : Value} (h : Three w B gg gm gw P v vm vw room s sw) (hp : RPost B gw vw s'.1 room s'.2.1 s'.2.2 r w e w') : ∃ vw', Three w' B gg gm gw P v vm vw' room s s' ∧ Fr (Stack.Foot gw vw) w w' := by
  obtain ⟨_, vw', q1, q2, q3⟩ := hp
  have hz := h.both.low
  refine ⟨vw', ⟨⟨h.both.g.fr q3 (fun k hk hf => ShadeBoth.sep h.both.g h.more k hf hk), h.both.r.fr q3 (fun k hk hf => h.sep k hf hk), h.both.tab.fr q3 (fun h0 => by have := (h.more.foot_lt 0 h0).1; have := h.both.pos; omega), h.both.pos⟩, q1, fun k hk hf => ?_⟩, q3⟩
  rcases hk with hk | hk
  · exact h.sep k (.inl hk) hf
  · rcases q2 k hk with h1 | h1
    · exact h.sep k (.inr h1) hf
    · have := (hz k (.inr hf)).2; omega
end

theorem nob_nil (w : World) : Nob w none := .inl rfl

theorem nob_odd {w : World} {g : Nat} (h : w.heap[g]? = some (.cells #[.pointer none, .pointer none] 39 (0, 0))) : Nob w (some ⟨g, 0, none⟩) := .inr ⟨g, rfl, h⟩

theorem apart_end {w0 w1 : World} {B gg gm gw gk : Nat} {P Pk : Pl} {v1 vm1 vw1 v2 vm2 vk : Value} {room : Int} {s sw : List (Int × Int) × Bool × List Nat} (z01 : w0.heap.size ≤ w1.heap.size)
    (ak : ∀ j, (j = gk ∨ j = Pk.gw ∨ Pk.foot vk j) → w0.heap.size ≤ j) (lk : ∀ j, (j = gk ∨ j = Pk.gw ∨ Pk.foot vk j) → j < w1.heap.size) (h1 : Three w1 B gg gm gw P v1 vm1 vw1 room s sw)
    (low : ∀ j, feet gm P v1 vm1 j → B ≤ j ∧ j < w0.heap.size) (lowg : ∀ j, (j = gg ∨ j = P.gw ∨ P.foot v1 j) → B ≤ j ∧ j < w0.heap.size) (lowr : ∀ j, Stack.Foot gw vw1 j → B ≤ j ∧ j < w0.heap.size)
    (hm : ∀ j, feet gm P v2 vm2 j → feet gm P v1 vm1 j ∨ w1.heap.size ≤ j) : ∀ j, ((j = gg ∨ j = P.gw ∨ P.foot v2 j) ∨ Stack.Foot gm vm2 j) → ¬ feet gw Pk vk vw1 j := by
  intro j hj hf
  have key : feet gm P v2 vm2 j → False := fun h2 => by
    rcases hm j h2 with h | h
    · rcases hf with hf | hf
      · have := ak j (.inr (.inr hf)); have := (low j h).2; omega
      · exact h1.apart j hf h
    · rcases hf with hf | hf
      · have := lk j (.inr (.inr hf)); omega
      · have := (lowr j hf).2; omega
  have key2 : (j = gg ∨ j = P.gw ∨ P.foot v1 j) → False := fun h2 => by
    rcases hf with hf | hf
    · have := ak j (.inr (.inr hf)); have := (lowg j h2).2; omega
    · exact ShadeBoth.sep h1.both.g h1.more j hf h2
  rcases hj with (h | h | h) | h
  · exact key2 (.inl h)
  · exact key2 (.inr (.inl h))
  · exact key (.inl h)
  · exact key (.inr h)

set_option maxRecDepth 100000 in
set_option maxHeartbeats 51200000 in
theorem clones_any (n : Int) (va vb vc : Value) (la lb lc : List (Int × Int × Int)) (w : World) (ht : Bitmap.Tab w) (ha : Rd w va la.length 3 (calls la)) (hb : Rd w vb lb.length 3 (calls lb)) (hc : Rd w vc lc.length 3 (calls lc)) :
    Calls Tryd.prog 4 #[.int .i64 n, va, vb, vc] w (Same w (.bool true)) := by
  obtain ⟨Aa, ca, rfl, hca⟩ := ha.slice
  obtain ⟨Ab, cb, rfl, hcb⟩ := hb.slice
  obtain ⟨Ac, cc, rfl, hcc⟩ := hc.slice
  have CA := Lib.hid hca
  have CB := Lib.hid hcb
  have CC := Lib.hid hcc
  have HA := Lib.hid (calls_cut (m := 60) ha)
  have HB := Lib.hid (calls_cut (m := 60) hb)
  have HC := Lib.hid (calls_cut (m := 60) hc)
  have HT := Lib.hid ht
  obtain ⟨room, hroom⟩ : ∃ room, max 1 (min n 256) = room := ⟨_, rfl⟩
  have HM := Lib.hid hroom
  clear ha hb hc hca hcb hcc ht hroom
  go_enter Tryd.func4, Tryd.ntmps4
  go_wp2_with fail
  with_reducible refine (ShadeOnce.alive_any _).mono ?_
  rintro x1 w1 ⟨rfl, hb1⟩
  have B1 := Lib.hid hb1
  clear hb1
  go_wp2_with fail
  with_reducible refine (Shade.new_any n room HM.out _).mono ?_
  rintro x3 w3 ⟨gg, P, v, rfl, hs3, hb3⟩
  have G3 := Lib.hid (G_lower hs3 B1.out.size)
  have B3 := Lib.hid (B1.out.trans (hb3.mono B1.out.size))
  clear hs3 hb3
  go_wp2_with fail
  with_reducible refine (Ref18.new_any n room HM.out _).mono ?_
  rintro x4 w4 ⟨gm, vm, rfl, hs4, hb4⟩
  have R4 := Lib.hid (R_lower hs4 B3.out.size)
  have G4 := Lib.hid (G3.out.no (Fr.of_below hb4 No))
  have B4 := Lib.hid (B3.out.trans (hb4.mono B3.out.size))
  clear hs4 hb4 G3
  go_wp2_with fail
  with_reducible refine (Ref18.new_any n room HM.out _).mono ?_
  rintro x5 w5 ⟨gw, vw, rfl, hs5, hb5⟩
  have H5 : Hid (Three w5 w.heap.size gg gm gw P v vm vw room ([], false, Bitmap.w0) ([], false, Bitmap.w0)) := Lib.hid ⟨⟨G4.out.no (Fr.of_below hb5 No), R4.out.no (Fr.of_below hb5 No), HT.out.low (B4.out.trans (hb5.mono B4.out.size)), tab_pos HT.out⟩, R_lower hs5 B4.out.size, fun k hk hf => by
    have h1 := (hs5.foot_lt k hk).1
    have h2 := (R4.out.foot_lt k hf).2
    omega⟩
  have B5 := Lib.hid (B4.out.trans (hb5.mono B4.out.size))
  clear hs5 hb5 R4 G4
  go_wp2_with fail
  with_reducible refine (few_any Aa la.length ca _ CA.out).mono ?_
  rintro x8 w8 ⟨rfl, hw8⟩
  subst hw8
  obtain ⟨na, hna⟩ : ∃ na, na = min 60 la.length := ⟨_, rfl⟩
  obtain ⟨oa, hoa⟩ : ∃ oa, oa = la.take 60 := ⟨_, rfl⟩
  have NA : Hid (na = oa.length) := Lib.hid (by rw [hna, hoa, List.length_take])
  have LA : Hid (na ≤ 60) := Lib.hid (by omega)
  rw [← hna, ← hoa] at HA
  rw [← hna]
  clear hna hoa
  go_wp2_with fail
  with_reducible refine (few_any Ab lb.length cb _ CB.out).mono ?_
  rintro x8 w8 ⟨rfl, hw8⟩
  subst hw8
  obtain ⟨nb, hnb⟩ : ∃ nb, nb = min 60 lb.length := ⟨_, rfl⟩
  obtain ⟨ob, hob⟩ : ∃ ob, ob = lb.take 60 := ⟨_, rfl⟩
  have NB : Hid (nb = ob.length) := Lib.hid (by rw [hnb, hob, List.length_take])
  have LB : Hid (nb ≤ 60) := Lib.hid (by omega)
  rw [← hnb, ← hob] at HB
  rw [← hnb]
  clear hnb hob
  go_wp2_with fail
  with_reducible refine (few_any Ac lc.length cc _ CC.out).mono ?_
  rintro x8 w8 ⟨rfl, hw8⟩
  subst hw8
  obtain ⟨nc, hnc⟩ : ∃ nc, nc = min 60 lc.length := ⟨_, rfl⟩
  obtain ⟨oc, hoc⟩ : ∃ oc, oc = lc.take 60 := ⟨_, rfl⟩
  have NC : Hid (nc = oc.length) := Lib.hid (by rw [hnc, hoc, List.length_take])
  have LC : Hid (nc ≤ 60) := Lib.hid (by omega)
  rw [← hnc, ← hoc] at HC
  rw [← hnc]
  clear hnc hoc
  go_wp2_with fail
  go_loopw [12] (fun i wr => ∃ k : Nat, k ≤ na ∧ i = .int .i64 k ∧ Hid (∃ v1 vm1 vw1, Three wr w.heap.size gg gm gw P v1 vm1 vw1 room (play room ([], false, Bitmap.w0) (oa.take k)) (play room ([], false, Bitmap.w0) (oa.take k)) ∧ Below w.heap.size w wr)) (fun i _ => na - (intOf i).toNat)
  case atStart => exact ⟨0, Nat.zero_le _, rfl, Lib.hid ⟨v, vm, vw, H5.out, B5.out⟩⟩
  case round =>
    obtain ⟨k, hk, rfl, HQ⟩ := hrel
    obtain ⟨wr1, hwr⟩ : ∃ x, x = wr := ⟨_, rfl⟩
    subst wr
    obtain ⟨v1, vm1, vw1, h3, hbel⟩ := HQ.out
    have H3 := Lib.hid h3
    have HBL := Lib.hid hbel
    have i1 : (0 : Int) ≤ (k : Int) := Int.natCast_nonneg _
    have hl := LA.out
    clear HQ h3
    by_cases hlt : k < na
    · obtain ⟨ad, rfl, x0, x1, x2⟩ := call_at (HA.out.below hbel) k (by rw [← NA.out]; exact hlt)
      have hps := play_succ room ([], false, Bitmap.w0) oa k (by rw [← NA.out]; exact hlt)
      have hrd : ∀ W, Below w.heap.size w W → W.cell? (ad.add (k * 3)) = some (.int .i64 (oa[k]'(by rw [← NA.out]; exact hlt)).1) ∧ W.cell? ⟨(ad.add (k * 3)).block, (ad.add (k * 3)).off + 1, none⟩ = some (.int .i64 (oa[k]'(by rw [← NA.out]; exact hlt)).2.1) ∧ W.cell? ⟨(ad.add (k * 3)).block, (ad.add (k * 3)).off + 2, none⟩ = some (.int .i64 (oa[k]'(by rw [← NA.out]; exact hlt)).2.2) := fun W hW => by
        obtain ⟨ad', he, y0, y1, y2⟩ := call_at (HA.out.below hW) k (by rw [← NA.out]; exact hlt)
        injection he with he
        subst he
        exact ⟨y0, y1, y2⟩
      generalize (oa[k]'(by rw [← NA.out]; exact hlt)) = op at x0 x1 x2 hps hrd
      obtain ⟨kd, i, fr⟩ := op
      dsimp only at x0 x1 x2 hrd
      have HPS := Lib.hid hps
      have HRD := Lib.hid hrd
      have i2 : (k : Int) < (na : Int) := by omega
      have HLT := Lib.hid hlt
      clear hbel hlt hps hrd
      go_wp2_with fail
      with_reducible refine (step_any w.heap.size gg gm P v1 vm1 room _ kd i fr _ H3.out.both).mono ?_
      intro x9 w9 hp9
      have T9 := Lib.hid (H3.out.step hp9)
      obtain ⟨rfl, _⟩ := hp9
      obtain ⟨v9, vm9, h9, f9⟩ := T9.out
      have H9 := Lib.hid h9
      have B9 := Lib.hid (HBL.out.trans (f9.below HBL.out.size (fun j hj => (H3.out.both.low j hj).1)))
      clear T9 h9 f9 x0 x1 x2
      obtain ⟨x0, x1, x2⟩ := HRD.out _ B9.out
      go_wp2_with fail
      with_reducible refine (ShadeReplay.replay_any w.heap.size gw vw1 room _ kd i fr _ B9.out.size H9.out.more).mono ?_
      intro x10 w10 hp10
      have T10 := Lib.hid (H9.out.replay hp10)
      obtain ⟨rfl, _⟩ := hp10
      obtain ⟨vw10, h10, f10⟩ := T10.out
      have H10 := Lib.hid h10
      have B10 := Lib.hid (B9.out.trans (f10.below B9.out.size (fun j hj => (H9.out.more.foot_lt j hj).1)))
      clear T10 h10 f10
      go_wp2_with fail
      go_roundw
      case rel => exact ⟨k + 1, HLT.out, by go_num, Lib.hid ⟨v9, vm9, vw10, by rw [HPS.out]; exact H10.out, B10.out⟩⟩
      case measure => have := HLT.out; simp [intOf]; omega
    · obtain rfl : k = na := by omega
      have i2 : ¬ (k : Int) < (k : Int) := by omega
      clear hlt hbel i1
      obtain ⟨s, hs⟩ : ∃ s, s = play room ([], false, Bitmap.w0) (oa.take k) := ⟨_, rfl⟩
      rw [← hs] at H3
      have HSS := Lib.hid hs
      clear hs
      go_wp2_with fail
      with_reducible refine (gclone_any w.heap.size gg P v1 s.1 room s.2.1 s.2.2 _ H3.out.both.g).mono ?_
      rintro x11 w11 ⟨gk, Pk, vk, rfl, hk11, hb11⟩
      have F11 := Lib.hid (Fr.of_below hb11 No)
      have K11 := Lib.hid hk11
      have B11 := Lib.hid (HBL.out.trans (hb11.mono HBL.out.size))
      have A11 := Lib.hid (show ∀ j, (j = gk ∨ j = Pk.gw ∨ Pk.foot vk j) → wr1.heap.size ≤ j from fun j hj => (hk11.lt j hj).1)
      clear hk11 hb11
      have T11 := Lib.hid (show Three w11 w.heap.size gg gm gw P v1 vm1 vw1 room s s from ⟨H3.out.both.no F11.out, H3.out.more.no F11.out, H3.out.sep⟩)
      have L11 := Lib.hid H3.out.both.low
      have M11 := Lib.hid H3.out.more.foot_lt
      have N11 := Lib.hid H3.out.both.g.lt
      have BQ := Lib.hid HBL.out.size
      clear H3 HBL
      have B11q := Lib.hid (show w.heap.size ≤ wr1.heap.size from BQ.out)
      clear BQ
      go_wp2_with fail
      go_loopw [14] (fun i wr => ∃ k : Nat, k ≤ nb ∧ i = .int .i64 k ∧ Hid (Ran w.heap.size gg gm P v1 vm1 room (play room s (ob.take k)) w11 wr)) (fun i _ => nb - (intOf i).toNat)
      case atStart => exact ⟨0, Nat.zero_le _, rfl, Lib.hid (Ran.refl T11.out.both)⟩
      case round =>
        obtain ⟨k2, hk, rfl, HQ⟩ := hrel
        obtain ⟨wr2, hwr⟩ : ∃ x, x = wr := ⟨_, rfl⟩
        subst wr
        obtain ⟨v2, vm2, hb, hm, hf⟩ := HQ.out
        have HB2 := Lib.hid hb
        have HF2 := Lib.hid hf
        have HM2 := Lib.hid hm
        have hbel : Below w.heap.size w wr2 := B11.out.trans (hf.below B11.out.size (fun j hj => (T11.out.both.low j hj).1))
        have i1 : (0 : Int) ≤ (k2 : Int) := Int.natCast_nonneg _
        have HBL2 := Lib.hid hbel
        have hl := LB.out
        clear HQ hb hm hf
        by_cases hlt : k2 < nb
        · obtain ⟨ad, rfl, x0, x1, x2⟩ := call_at (HB.out.below hbel) k2 (by rw [← NB.out]; exact hlt)
          have hps := play_succ room s ob k2 (by rw [← NB.out]; exact hlt)
          generalize (ob[k2]'(by rw [← NB.out]; exact hlt)) = op at x0 x1 x2 hps
          obtain ⟨kd, i, fr⟩ := op
          dsimp only at x0 x1 x2
          have HPS := Lib.hid hps
          have i2 : (k2 : Int) < (nb : Int) := by omega
          have HLT := Lib.hid hlt
          clear hbel hlt hps
          go_wp2_with fail
          with_reducible refine (step_any w.heap.size gg gm P v2 vm2 room _ kd i fr _ HB2.out).mono ?_
          intro x5 w5 hp5
          have P5 := Lib.hid (Ran.step HM2.out HF2.out hp5)
          obtain ⟨rfl, _⟩ := hp5
          go_wp2_with fail
          go_roundw
          case rel => exact ⟨k2 + 1, HLT.out, by go_num, by rw [HPS.out]; exact P5⟩
          case measure => have := HLT.out; simp [intOf]; omega
        · obtain rfl : k2 = nb := by omega
          have i2 : ¬ (k2 : Int) < (k2 : Int) := by omega
          clear hlt hbel i1 hl
          obtain ⟨sb, hsb⟩ : ∃ sb, sb = play room s (ob.take k2) := ⟨_, rfl⟩
          rw [← hsb] at HB2
          clear hsb
          have K2 := Lib.hid (K11.out.fr HF2.out (fun j hj hf => by have := A11.out j hj; have := (L11.out j hf).2; omega))
          have R2 := Lib.hid (T11.out.more.fr HF2.out (fun j hj => T11.out.apart j hj))
          have AP := Lib.hid (apart_end (F11.out.size) A11.out (fun j hj => (K11.out.lt j hj).2) T11.out L11.out N11.out M11.out HM2.out)
          have K2b := Lib.hid (G_lower K2.out (Nat.le_trans B11q.out (Nat.le_refl _)))
          have LK2 := Lib.hid (show ∀ j, feet gw Pk vk vw1 j → w.heap.size ≤ j ∧ j < wr2.heap.size from fun j hj => hj.elim (fun h => K2b.out.lt j (.inr (.inr h))) (fun h => R2.out.foot_lt j h))
          have BB2 := Lib.hid HBL2.out
          clear K2 K11 A11 L11 M11 N11 T11 F11 HF2 HM2 HBL2 B11
          go_wp2_with fail
          go_loopw [15] (fun i wr => ∃ k : Nat, k ≤ nc ∧ i = .int .i64 k ∧ Hid (Ran w.heap.size gk gw Pk vk vw1 room (play room s (oc.take k)) wr2 wr)) (fun i _ => nc - (intOf i).toNat)
          case atStart => exact ⟨0, Nat.zero_le _, rfl, Lib.hid (Ran.refl ⟨K2b.out, R2.out, HB2.out.tab, HB2.out.pos⟩)⟩
          case round =>
            obtain ⟨k3, hk, rfl, HQ⟩ := hrel
            obtain ⟨wr3, hwr⟩ : ∃ x, x = wr := ⟨_, rfl⟩
            subst wr
            obtain ⟨v3, vm3, hb, hm, hf⟩ := HQ.out
            have HB3 := Lib.hid hb
            have HF3 := Lib.hid hf
            have HM3 := Lib.hid hm
            have hbel : Below w.heap.size w wr3 := BB2.out.trans (hf.below BB2.out.size (fun j hj => (LK2.out j hj).1))
            have i1 : (0 : Int) ≤ (k3 : Int) := Int.natCast_nonneg _
            have HBL3 := Lib.hid hbel
            have hl := LC.out
            clear HQ hb hm hf
            by_cases hlt : k3 < nc
            · obtain ⟨ad, rfl, x0, x1, x2⟩ := call_at (HC.out.below hbel) k3 (by rw [← NC.out]; exact hlt)
              have hps := play_succ room s oc k3 (by rw [← NC.out]; exact hlt)
              generalize (oc[k3]'(by rw [← NC.out]; exact hlt)) = op at x0 x1 x2 hps
              obtain ⟨kd, i, fr⟩ := op
              dsimp only at x0 x1 x2
              have HPS := Lib.hid hps
              have i2 : (k3 : Int) < (nc : Int) := by omega
              have HLT := Lib.hid hlt
              clear hbel hlt hps
              go_wp2_with fail
              with_reducible refine (step_any w.heap.size gk gw Pk v3 vm3 room _ kd i fr _ HB3.out).mono ?_
              intro x5 w5 hp5
              have P5 := Lib.hid (Ran.step HM3.out HF3.out hp5)
              obtain ⟨rfl, _⟩ := hp5
              go_wp2_with fail
              go_roundw
              case rel => exact ⟨k3 + 1, HLT.out, by go_num, by rw [HPS.out]; exact P5⟩
              case measure => have := HLT.out; simp [intOf]; omega
            · obtain rfl : k3 = nc := by omega
              have i2 : ¬ (k3 : Int) < (k3 : Int) := by omega
              clear hlt hbel i1 hl
              obtain ⟨sc, hsc⟩ : ∃ sc, sc = play room s (oc.take k3) := ⟨_, rfl⟩
              rw [← hsc] at HB3
              clear hsc
              have GA := Lib.hid (show Both wr3 w.heap.size gg gm P v2 vm2 sb.1 room sb.2.1 sb.2.2 from ⟨HB2.out.g.fr HF3.out (fun j hj => AP.out j (.inl hj)), HB2.out.r.fr HF3.out (fun j hj => AP.out j (.inr hj)), HT.out.low HBL3.out, HB2.out.pos⟩)
              have BZ := Lib.hid HBL3.out
              clear K2b HF3 HM3 HBL3 HB2 AP LK2 BB2
              go_wp2_with fail
              have FO := Lib.hid (Fr.alloc (Fr.refl No wr3) (.cells #[.pointer none, .pointer none] 39))
              have XO := Lib.hid (heap_alloc_new wr3 (.cells #[.pointer none, .pointer none] 39))
              generalize wr3.alloc (.cells #[.pointer none, .pointer none] 39) = wo at FO XO ⊢
              with_reducible refine (next_nob none _ (nob_nil _)).mono ?_
              rintro x20 w20 ⟨rfl, hb20⟩
              have F20 := Lib.hid (FO.out.trans (Fr.of_below hb20 No) (fun i (h : No i) => h.elim))
              have XO2 := Lib.hid ((Fr.of_below hb20 No).blk XO.out (fun h => h))
              clear hb20
              go_wp2_with fail
              have F21 := Lib.hid (Fr.alloc F20.out (.cells #[.int .i64 0, .int .i64 0] 41))
              have XE := Lib.hid (heap_alloc_new w20 (.cells #[.int .i64 0, .int .i64 0] 41))
              have XO3 := Lib.hid (alloc_of XO2.out (.cells #[.int .i64 0, .int .i64 0] 41))
              have Z21 := Lib.hid (show w20.heap.size < (w20.alloc (.cells #[.int .i64 0, .int .i64 0] 41)).heap.size by simp)
              generalize w20.alloc (.cells #[.int .i64 0, .int .i64 0] 41) = w21 at F21 XE XO3 Z21 ⊢
              with_reducible refine (next_nob (some ⟨wr3.heap.size, 0, none⟩) _ (nob_odd XO3.out)).mono ?_
              rintro x22 w22 ⟨rfl, hb22⟩
              have F22 := Lib.hid (F21.out.trans (Fr.of_below hb22 No) (fun i (h : No i) => h.elim))
              have XO4 := Lib.hid ((Fr.of_below hb22 No).blk XO3.out (fun h => h))
              have XE2 := Lib.hid ((Fr.of_below hb22 No).blk XE.out (fun h => h))
              clear hb22
              go_wp2_with fail
              have FZ := Lib.hid (Fr.alloc F22.out (.cells #[.int .i64 0, .int .i64 0] 41))
              have XF := Lib.hid (heap_alloc_new w22 (.cells #[.int .i64 0, .int .i64 0] 41))
              have XO5 := Lib.hid (alloc_of XO4.out (.cells #[.int .i64 0, .int .i64 0] 41))
              have XE3 := Lib.hid (alloc_of XE2.out (.cells #[.int .i64 0, .int .i64 0] 41))
              generalize w22.alloc (.cells #[.int .i64 0, .int .i64 0] 41) = wz at FZ XF XO5 XE3 ⊢
              have GZ := Lib.hid (GA.out.no FZ.out)
              have KZ := Lib.hid (HB3.out.no FZ.out)
              have BE := Lib.hid (BZ.out.trans (FZ.out.below BZ.out.size (fun _ h => h.elim)))
              have ON := Lib.hid (show Nob wz (some ⟨wr3.heap.size, 0, none⟩) from .inr ⟨_, rfl, XO5.out⟩)
              clear FO XO F20 XO2 F21 XE XO3 Z21 F22 XO4 XE2 XO5
              with_reducible refine (Shade4.told_any w.heap.size gg gm P v2 vm2 _ room _ _ _ (GZ.out.no (by repeat (first | exact Fr.refl _ _ | apply Fr.drewN | apply Fr.drew | apply Fr.alloc))).g (GZ.out.no (by repeat (first | exact Fr.refl _ _ | apply Fr.drewN | apply Fr.drew | apply Fr.alloc))).r (GZ.out.no (by repeat (first | exact Fr.refl _ _ | apply Fr.drewN | apply Fr.drew | apply Fr.alloc))).tab).mono ?_
              rintro x30 w30 ⟨rfl, hb⟩
              have F30 := Lib.hid (show Fr No wz w30 from Fr.then_below (by repeat (first | exact Fr.refl _ _ | apply Fr.drewN | apply Fr.drew | apply Fr.alloc)) hb)
              clear hb
              have ce0 : w30.cell? ⟨w20.heap.size, 0, none⟩ = some (.int .i64 0) := F30.out.cell (cell_of XE3.out 0) (fun h => h)
              have ce1 : w30.cell? ⟨w20.heap.size, 1, none⟩ = some (.int .i64 0) := F30.out.cell (cell_of XE3.out 1) (fun h => h)
              have cf0 : w30.cell? ⟨w22.heap.size, 0, none⟩ = some (.int .i64 0) := F30.out.cell (cell_of XF.out 0) (fun h => h)
              have cf1 : w30.cell? ⟨w22.heap.size, 1, none⟩ = some (.int .i64 0) := F30.out.cell (cell_of XF.out 1) (fun h => h)
              go_wp2_with fail
              with_reducible refine (Shade4.told_any w.heap.size gk gw Pk v3 vm3 _ room _ _ _ (KZ.out.no (by repeat (first | exact F30.out | apply Fr.drewN | apply Fr.drew | apply Fr.alloc))).g (KZ.out.no (by repeat (first | exact F30.out | apply Fr.drewN | apply Fr.drew | apply Fr.alloc))).r (KZ.out.no (by repeat (first | exact F30.out | apply Fr.drewN | apply Fr.drew | apply Fr.alloc))).tab).mono ?_
              rintro x31 w31 ⟨rfl, hb⟩
              have F31 := Lib.hid (show Fr No wz w31 from Fr.then_below (by repeat (first | exact F30.out | apply Fr.drewN | apply Fr.drew | apply Fr.alloc)) hb)
              clear hb
              clear ce0 ce1 cf0 cf1
              have ce0 : w31.cell? ⟨w20.heap.size, 0, none⟩ = some (.int .i64 0) := F31.out.cell (cell_of XE3.out 0) (fun h => h)
              have ce1 : w31.cell? ⟨w20.heap.size, 1, none⟩ = some (.int .i64 0) := F31.out.cell (cell_of XE3.out 1) (fun h => h)
              have cf0 : w31.cell? ⟨w22.heap.size, 0, none⟩ = some (.int .i64 0) := F31.out.cell (cell_of XF.out 0) (fun h => h)
              have cf1 : w31.cell? ⟨w22.heap.size, 1, none⟩ = some (.int .i64 0) := F31.out.cell (cell_of XF.out 1) (fun h => h)
              go_wp2_with fail
              with_reducible refine (shade_nob none 1 _ (nob_nil _)).mono ?_
              rintro x32 w32 ⟨rfl, q, hw⟩
              have F32 := Lib.hid (show Fr No wz w32 from Bitmap.drewN_fr (by repeat (first | exact F31.out | apply Fr.drewN | apply Fr.drew | apply Fr.alloc)) hw)
              clear hw
              clear ce0 ce1 cf0 cf1
              have ce0 : w32.cell? ⟨w20.heap.size, 0, none⟩ = some (.int .i64 0) := F32.out.cell (cell_of XE3.out 0) (fun h => h)
              have ce1 : w32.cell? ⟨w20.heap.size, 1, none⟩ = some (.int .i64 0) := F32.out.cell (cell_of XE3.out 1) (fun h => h)
              have cf0 : w32.cell? ⟨w22.heap.size, 0, none⟩ = some (.int .i64 0) := F32.out.cell (cell_of XF.out 0) (fun h => h)
              have cf1 : w32.cell? ⟨w22.heap.size, 1, none⟩ = some (.int .i64 0) := F32.out.cell (cell_of XF.out 1) (fun h => h)
              go_wp2_with fail
              with_reducible refine (shade_nob (some ⟨wr3.heap.size, 0, none⟩) 1 _ (ON.out.no (by repeat (first | exact F32.out | apply Fr.drewN | apply Fr.drew | apply Fr.alloc)))).mono ?_
              rintro x33 w33 ⟨rfl, q, hw⟩
              have F33 := Lib.hid (show Fr No wz w33 from Bitmap.drewN_fr (by repeat (first | exact F32.out | apply Fr.drewN | apply Fr.drew | apply Fr.alloc)) hw)
              clear hw
              clear ce0 ce1 cf0 cf1
              have ce0 : w33.cell? ⟨w20.heap.size, 0, none⟩ = some (.int .i64 0) := F33.out.cell (cell_of XE3.out 0) (fun h => h)
              have ce1 : w33.cell? ⟨w20.heap.size, 1, none⟩ = some (.int .i64 0) := F33.out.cell (cell_of XE3.out 1) (fun h => h)
              have cf0 : w33.cell? ⟨w22.heap.size, 0, none⟩ = some (.int .i64 0) := F33.out.cell (cell_of XF.out 0) (fun h => h)
              have cf1 : w33.cell? ⟨w22.heap.size, 1, none⟩ = some (.int .i64 0) := F33.out.cell (cell_of XF.out 1) (fun h => h)
              go_wp2_with fail
              with_reducible refine (is_nob none 1 _ (nob_nil _)).mono ?_
              rintro x34 w34 ⟨rfl, q, hw⟩
              have F34 := Lib.hid (show Fr No wz w34 from Bitmap.drewN_fr (by repeat (first | exact F33.out | apply Fr.drewN | apply Fr.drew | apply Fr.alloc)) hw)
              clear hw
              clear ce0 ce1 cf0 cf1
              have ce0 : w34.cell? ⟨w20.heap.size, 0, none⟩ = some (.int .i64 0) := F34.out.cell (cell_of XE3.out 0) (fun h => h)
              have ce1 : w34.cell? ⟨w20.heap.size, 1, none⟩ = some (.int .i64 0) := F34.out.cell (cell_of XE3.out 1) (fun h => h)
              have cf0 : w34.cell? ⟨w22.heap.size, 0, none⟩ = some (.int .i64 0) := F34.out.cell (cell_of XF.out 0) (fun h => h)
              have cf1 : w34.cell? ⟨w22.heap.size, 1, none⟩ = some (.int .i64 0) := F34.out.cell (cell_of XF.out 1) (fun h => h)
              go_wp2_with fail
              with_reducible refine (black_nob (some ⟨wr3.heap.size, 0, none⟩) 1 _ (ON.out.no (by repeat (first | exact F34.out | apply Fr.drewN | apply Fr.drew | apply Fr.alloc)))).mono ?_
              rintro x35 w35 ⟨rfl, q, hw⟩
              have F35 := Lib.hid (show Fr No wz w35 from Bitmap.drewN_fr (by repeat (first | exact F34.out | apply Fr.drewN | apply Fr.drew | apply Fr.alloc)) hw)
              clear hw
              clear ce0 ce1 cf0 cf1
              have ce0 : w35.cell? ⟨w20.heap.size, 0, none⟩ = some (.int .i64 0) := F35.out.cell (cell_of XE3.out 0) (fun h => h)
              have ce1 : w35.cell? ⟨w20.heap.size, 1, none⟩ = some (.int .i64 0) := F35.out.cell (cell_of XE3.out 1) (fun h => h)
              have cf0 : w35.cell? ⟨w22.heap.size, 0, none⟩ = some (.int .i64 0) := F35.out.cell (cell_of XF.out 0) (fun h => h)
              have cf1 : w35.cell? ⟨w22.heap.size, 1, none⟩ = some (.int .i64 0) := F35.out.cell (cell_of XF.out 1) (fun h => h)
              go_wp2_with fail
              with_reducible refine (clear_nob none 1 _ (nob_nil _)).mono ?_
              rintro x36 w36 ⟨rfl, q, hw⟩
              have F36 := Lib.hid (show Fr No wz w36 from Bitmap.drewN_fr (by repeat (first | exact F35.out | apply Fr.drewN | apply Fr.drew | apply Fr.alloc)) hw)
              clear hw
              clear ce0 ce1 cf0 cf1
              have ce0 : w36.cell? ⟨w20.heap.size, 0, none⟩ = some (.int .i64 0) := F36.out.cell (cell_of XE3.out 0) (fun h => h)
              have ce1 : w36.cell? ⟨w20.heap.size, 1, none⟩ = some (.int .i64 0) := F36.out.cell (cell_of XE3.out 1) (fun h => h)
              have cf0 : w36.cell? ⟨w22.heap.size, 0, none⟩ = some (.int .i64 0) := F36.out.cell (cell_of XF.out 0) (fun h => h)
              have cf1 : w36.cell? ⟨w22.heap.size, 1, none⟩ = some (.int .i64 0) := F36.out.cell (cell_of XF.out 1) (fun h => h)
              go_wp2_with fail
              with_reducible refine (count_nob none _ (nob_nil _)).mono ?_
              rintro x37 w37 ⟨rfl, q, hw⟩
              have F37 := Lib.hid (show Fr No wz w37 from Bitmap.drewN_fr (by repeat (first | exact F36.out | apply Fr.drewN | apply Fr.drew | apply Fr.alloc)) hw)
              clear hw
              clear ce0 ce1 cf0 cf1
              have ce0 : w37.cell? ⟨w20.heap.size, 0, none⟩ = some (.int .i64 0) := F37.out.cell (cell_of XE3.out 0) (fun h => h)
              have ce1 : w37.cell? ⟨w20.heap.size, 1, none⟩ = some (.int .i64 0) := F37.out.cell (cell_of XE3.out 1) (fun h => h)
              have cf0 : w37.cell? ⟨w22.heap.size, 0, none⟩ = some (.int .i64 0) := F37.out.cell (cell_of XF.out 0) (fun h => h)
              have cf1 : w37.cell? ⟨w22.heap.size, 1, none⟩ = some (.int .i64 0) := F37.out.cell (cell_of XF.out 1) (fun h => h)
              go_wp2_with fail
              with_reducible refine (count_nob (some ⟨wr3.heap.size, 0, none⟩) _ (ON.out.no (by repeat (first | exact F37.out | apply Fr.drewN | apply Fr.drew | apply Fr.alloc)))).mono ?_
              rintro x38 w38 ⟨rfl, q, hw⟩
              have F38 := Lib.hid (show Fr No wz w38 from Bitmap.drewN_fr (by repeat (first | exact F37.out | apply Fr.drewN | apply Fr.drew | apply Fr.alloc)) hw)
              clear hw
              clear ce0 ce1 cf0 cf1
              have ce0 : w38.cell? ⟨w20.heap.size, 0, none⟩ = some (.int .i64 0) := F38.out.cell (cell_of XE3.out 0) (fun h => h)
              have ce1 : w38.cell? ⟨w20.heap.size, 1, none⟩ = some (.int .i64 0) := F38.out.cell (cell_of XE3.out 1) (fun h => h)
              have cf0 : w38.cell? ⟨w22.heap.size, 0, none⟩ = some (.int .i64 0) := F38.out.cell (cell_of XF.out 0) (fun h => h)
              have cf1 : w38.cell? ⟨w22.heap.size, 1, none⟩ = some (.int .i64 0) := F38.out.cell (cell_of XF.out 1) (fun h => h)
              go_wp2_with fail
              with_reducible refine (rest_nob none 0 0 _ (nob_nil _)).mono ?_
              rintro x39 w39 ⟨rfl, hb⟩
              have F39 := Lib.hid (show Fr No wz w39 from Fr.then_below (by repeat (first | exact F38.out | apply Fr.drewN | apply Fr.drew | apply Fr.alloc)) hb)
              clear hb
              clear ce0 ce1 cf0 cf1
              have ce0 : w39.cell? ⟨w20.heap.size, 0, none⟩ = some (.int .i64 0) := F39.out.cell (cell_of XE3.out 0) (fun h => h)
              have ce1 : w39.cell? ⟨w20.heap.size, 1, none⟩ = some (.int .i64 0) := F39.out.cell (cell_of XE3.out 1) (fun h => h)
              have cf0 : w39.cell? ⟨w22.heap.size, 0, none⟩ = some (.int .i64 0) := F39.out.cell (cell_of XF.out 0) (fun h => h)
              have cf1 : w39.cell? ⟨w22.heap.size, 1, none⟩ = some (.int .i64 0) := F39.out.cell (cell_of XF.out 1) (fun h => h)
              go_wp2_with fail
              with_reducible refine (rest_nob (some ⟨wr3.heap.size, 0, none⟩) 0 0 _ (ON.out.no (by repeat (first | exact F39.out | apply Fr.drewN | apply Fr.drew | apply Fr.alloc)))).mono ?_
              rintro x40 w40 ⟨rfl, hb⟩
              have F40 := Lib.hid (show Fr No wz w40 from Fr.then_below (by repeat (first | exact F39.out | apply Fr.drewN | apply Fr.drew | apply Fr.alloc)) hb)
              clear hb
              clear ce0 ce1 cf0 cf1
              have ce0 : w40.cell? ⟨w20.heap.size, 0, none⟩ = some (.int .i64 0) := F40.out.cell (cell_of XE3.out 0) (fun h => h)
              have ce1 : w40.cell? ⟨w20.heap.size, 1, none⟩ = some (.int .i64 0) := F40.out.cell (cell_of XE3.out 1) (fun h => h)
              have cf0 : w40.cell? ⟨w22.heap.size, 0, none⟩ = some (.int .i64 0) := F40.out.cell (cell_of XF.out 0) (fun h => h)
              have cf1 : w40.cell? ⟨w22.heap.size, 1, none⟩ = some (.int .i64 0) := F40.out.cell (cell_of XF.out 1) (fun h => h)
              go_wp2_with fail
              with_reducible refine (waiting_nob none _ (nob_nil _)).mono ?_
              rintro x41 w41 ⟨rfl, hb⟩
              have F41 := Lib.hid (show Fr No wz w41 from Fr.then_below (by repeat (first | exact F40.out | apply Fr.drewN | apply Fr.drew | apply Fr.alloc)) hb)
              clear hb
              clear ce0 ce1 cf0 cf1
              have ce0 : w41.cell? ⟨w20.heap.size, 0, none⟩ = some (.int .i64 0) := F41.out.cell (cell_of XE3.out 0) (fun h => h)
              have ce1 : w41.cell? ⟨w20.heap.size, 1, none⟩ = some (.int .i64 0) := F41.out.cell (cell_of XE3.out 1) (fun h => h)
              have cf0 : w41.cell? ⟨w22.heap.size, 0, none⟩ = some (.int .i64 0) := F41.out.cell (cell_of XF.out 0) (fun h => h)
              have cf1 : w41.cell? ⟨w22.heap.size, 1, none⟩ = some (.int .i64 0) := F41.out.cell (cell_of XF.out 1) (fun h => h)
              go_wp2_with fail
              with_reducible refine (over_nob (some ⟨wr3.heap.size, 0, none⟩) _ (ON.out.no (by repeat (first | exact F41.out | apply Fr.drewN | apply Fr.drew | apply Fr.alloc)))).mono ?_
              rintro x42 w42 ⟨rfl, hb⟩
              have F42 := Lib.hid (show Fr No wz w42 from Fr.then_below (by repeat (first | exact F41.out | apply Fr.drewN | apply Fr.drew | apply Fr.alloc)) hb)
              clear hb
              clear ce0 ce1 cf0 cf1
              have ce0 : w42.cell? ⟨w20.heap.size, 0, none⟩ = some (.int .i64 0) := F42.out.cell (cell_of XE3.out 0) (fun h => h)
              have ce1 : w42.cell? ⟨w20.heap.size, 1, none⟩ = some (.int .i64 0) := F42.out.cell (cell_of XE3.out 1) (fun h => h)
              have cf0 : w42.cell? ⟨w22.heap.size, 0, none⟩ = some (.int .i64 0) := F42.out.cell (cell_of XF.out 0) (fun h => h)
              have cf1 : w42.cell? ⟨w22.heap.size, 1, none⟩ = some (.int .i64 0) := F42.out.cell (cell_of XF.out 1) (fun h => h)
              go_wp2_with fail
              with_reducible refine (settle_nob none _ (nob_nil _)).mono ?_
              rintro x43 w43 ⟨rfl, hb⟩
              have F43 := Lib.hid (show Fr No wz w43 from Fr.then_below (by repeat (first | exact F42.out | apply Fr.drewN | apply Fr.drew | apply Fr.alloc)) hb)
              clear hb
              clear ce0 ce1 cf0 cf1
              have ce0 : w43.cell? ⟨w20.heap.size, 0, none⟩ = some (.int .i64 0) := F43.out.cell (cell_of XE3.out 0) (fun h => h)
              have ce1 : w43.cell? ⟨w20.heap.size, 1, none⟩ = some (.int .i64 0) := F43.out.cell (cell_of XE3.out 1) (fun h => h)
              have cf0 : w43.cell? ⟨w22.heap.size, 0, none⟩ = some (.int .i64 0) := F43.out.cell (cell_of XF.out 0) (fun h => h)
              have cf1 : w43.cell? ⟨w22.heap.size, 1, none⟩ = some (.int .i64 0) := F43.out.cell (cell_of XF.out 1) (fun h => h)
              go_wp2_with fail
              with_reducible refine (all_nob none _ (nob_nil _)).mono ?_
              rintro x44 w44 ⟨rfl, q, hw⟩
              have F44 := Lib.hid (show Fr No wz w44 from Bitmap.drewN_fr (by repeat (first | exact F43.out | apply Fr.drewN | apply Fr.drew | apply Fr.alloc)) hw)
              clear hw
              clear ce0 ce1 cf0 cf1
              have ce0 : w44.cell? ⟨w20.heap.size, 0, none⟩ = some (.int .i64 0) := F44.out.cell (cell_of XE3.out 0) (fun h => h)
              have ce1 : w44.cell? ⟨w20.heap.size, 1, none⟩ = some (.int .i64 0) := F44.out.cell (cell_of XE3.out 1) (fun h => h)
              have cf0 : w44.cell? ⟨w22.heap.size, 0, none⟩ = some (.int .i64 0) := F44.out.cell (cell_of XF.out 0) (fun h => h)
              have cf1 : w44.cell? ⟨w22.heap.size, 1, none⟩ = some (.int .i64 0) := F44.out.cell (cell_of XF.out 1) (fun h => h)
              go_wp2_with fail
              with_reducible refine (clone_nob none _ (nob_nil _)).mono ?_
              rintro x45 w45 ⟨rfl, q, hw⟩
              have F45 := Lib.hid (show Fr No wz w45 from Bitmap.drewN_fr (by repeat (first | exact F44.out | apply Fr.drewN | apply Fr.drew | apply Fr.alloc)) hw)
              clear hw
              clear ce0 ce1 cf0 cf1
              have ce0 : w45.cell? ⟨w20.heap.size, 0, none⟩ = some (.int .i64 0) := F45.out.cell (cell_of XE3.out 0) (fun h => h)
              have ce1 : w45.cell? ⟨w20.heap.size, 1, none⟩ = some (.int .i64 0) := F45.out.cell (cell_of XE3.out 1) (fun h => h)
              have cf0 : w45.cell? ⟨w22.heap.size, 0, none⟩ = some (.int .i64 0) := F45.out.cell (cell_of XF.out 0) (fun h => h)
              have cf1 : w45.cell? ⟨w22.heap.size, 1, none⟩ = some (.int .i64 0) := F45.out.cell (cell_of XF.out 1) (fun h => h)
              go_wp2_with fail
              with_reducible refine (clone_nob (some ⟨wr3.heap.size, 0, none⟩) _ (ON.out.no (by repeat (first | exact F45.out | apply Fr.drewN | apply Fr.drew | apply Fr.alloc)))).mono ?_
              rintro x46 w46 ⟨rfl, q, hw⟩
              have F46 := Lib.hid (show Fr No wz w46 from Bitmap.drewN_fr (by repeat (first | exact F45.out | apply Fr.drewN | apply Fr.drew | apply Fr.alloc)) hw)
              clear hw
              clear ce0 ce1 cf0 cf1
              have ce0 : w46.cell? ⟨w20.heap.size, 0, none⟩ = some (.int .i64 0) := F46.out.cell (cell_of XE3.out 0) (fun h => h)
              have ce1 : w46.cell? ⟨w20.heap.size, 1, none⟩ = some (.int .i64 0) := F46.out.cell (cell_of XE3.out 1) (fun h => h)
              have cf0 : w46.cell? ⟨w22.heap.size, 0, none⟩ = some (.int .i64 0) := F46.out.cell (cell_of XF.out 0) (fun h => h)
              have cf1 : w46.cell? ⟨w22.heap.size, 1, none⟩ = some (.int .i64 0) := F46.out.cell (cell_of XF.out 1) (fun h => h)
              go_wp2_with fail
              go_ret
              exact ⟨rfl, BE.out.trans (F46.out.below BE.out.size (fun _ h => h.elim))⟩

end Go.Proofs.YtoipjmhfeggdeaaDoor.ShadeClones
