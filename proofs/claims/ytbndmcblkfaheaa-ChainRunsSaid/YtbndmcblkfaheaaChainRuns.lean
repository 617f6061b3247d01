/- Proved: the law ChainRuns of package scutagelaw08 over any arguments. -/
import Derived.Test.YtbndmcblkfaheaaChainBuilds
import Derived.Deep.CutRange
namespace Go.Proofs.Ytbndmcblkfaheaa.Chain
open Go.RowKit Go.Proofs.Ytbndmcblkfaheaa.H Go.Proofs.Ytbndmcblkfaheaa.Words Go.Proofs.Ytbndmcblkfaheaa.Mem
set_option linter.unusedVariables false
set_option linter.unusedSimpArgs false

theorem upTo_snoc (j : Nat) : upTo 0 (j + 1) = upTo 0 j ++ [(j : Int)] := by
  unfold upTo
  rw [List.drop_zero, List.drop_zero, List.range_succ, List.map_append]
  rfl

theorem Rd.tail {w : World} {ad : Addr} {m c : Nat} {x : Int} {r : List Int} (h : Rd w (.slice (some ad) (m + 1) c) (m + 1) 1 (Nums.ints (x :: r))) : Rd w (.slice (some (ad.add 1)) m (c - 1)) m 1 (Nums.ints r) := by
  have hl := h.len
  rw [Nums.ints_length] at hl
  refine ⟨by rw [Nums.ints_length]; simp at hl; omega, Nums.ints_one _, ?_⟩
  rcases h.at_ with ⟨he, _⟩ | ⟨ad', c', he, hc, h2⟩
  · cases he
  · injection he with e1 e2 e3
    injection e1 with e1
    subst e1
    subst e3
    refine .inr ⟨ad.add 1, c - 1, rfl, by omega, fun j v hj => ?_⟩
    have h3 := h2 (j + 1) v (by rw [Nums.ints_eq] at hj ⊢; simpa using hj)
    rw [Go.Deep.add_add, Nat.add_comm 1 j]
    exact h3

/-- a memory, a chain in a box, and the list of its cells -/
structure Inv (w : World) (B g bc : Nat) (v : Value) (fv : Value) (p : Nat) (k : Int) (l : List Int) (f : Int) (free : List Int) : Prop where
  m : M w B g v l
  box : w.heap[bc]? = some (.cells #[.int .i64 f, .int .i64 free.length] 29 (0, 0))
  rd : Rd w fv free.length 1 (Nums.ints free)
  sep : ∀ b, fv.ownBlock = some b → b < w.heap.size ∧ ¬ Foot g v b ∧ b ≠ bc
  ch : Ch l p k f free
  nd : free.Nodup
  len : l.length = 128
  bcf : ¬ Foot g v bc
  bcb : B ≤ bc

section
variable {w w' : World} {B g bc p : Nat} {v fv : Value} {k f : Int} {l free : List Int}
theorem Inv.no (h : Inv w B g bc v fv p k l f free) (hf : Fr No w w') : Inv w' B g bc v fv p k l f free :=
  ⟨h.m.no hf, hf.blk h.box (fun h => h), h.rd.fr hf (fun _ _ h => h), fun b hb => ⟨by have := (h.sep b hb).1; have := hf.size; omega, (h.sep b hb).2⟩, h.ch, h.nd, h.len, h.bcf, h.bcb⟩
theorem Inv.pg (h : Inv w B g bc v fv p k l f free) : free.length ≤ nc k := pig _ free h.nd h.ch.rng.2
end

attribute [local irreducible] nc sz

def RunsRel (w : World) (B g bc : Nat) (v : Value) (p : Nat) (k : Int) (fv : Value) (wr : World) : Prop := ∃ l f free, Inv wr B g bc v fv p k l f free ∧ Below w.heap.size w wr

set_option maxRecDepth 100000 in
set_option maxHeartbeats 25600000 in
theorem runs_none (p k : Int) (vo : Value) (ops : List (Int × Int)) (hk : nc k = 0) (w : World) :
    Calls Try.prog 3 #[.int .i64 p, .int .i64 k, vo] w (Same w (.bool true)) := by
  have HN : Hid (∀ W, Calls Try.prog 8 #[.int .i64 k] W (Same W (.int .i64 0))) := Lib.hid (fun W => by have h := rcells_any k W; rw [hk] at h; exact h)
  clear hk
  obtain ⟨P, hP⟩ := Int.eq_ofNat_of_zero_le (show 0 ≤ max 0 (min p 3) by omega)
  have HP := Lib.hid hP
  clear hP
  go_enter Try.func3, Try.ntmps3
  go_wp2_with fail
  with_reducible refine (alive_any _).mono ?_
  rintro x1 w1 ⟨rfl, hb1⟩
  have B1 := Lib.hid hb1
  clear hb1
  go_wp2_with fail
  with_reducible refine (near_any p 0 3 P HP.out (by omega) _).mono ?_
  rintro x2 w2 ⟨rfl, q2, rfl⟩
  go_wp2_with fail
  with_reducible refine (HN.out _).mono ?_
  rintro x3 w3 ⟨rfl, hb3⟩
  have B3 := Lib.hid ((B1.out.trans ((Fr.drewN (Fr.refl No w1) q2).below B1.out.size (fun _ h => h.elim))).trans (hb3.mono B1.out.size))
  clear hb3
  go_wp2_with fail
  go_ret
  exact ⟨rfl, B3.out⟩

set_option maxRecDepth 100000 in
set_option maxHeartbeats 25600000 in
theorem runs_some (p0 k : Int) (vo : Value) (ops : List (Int × Int)) (hk : 0 < nc k) (w : World) (hr : Rd w vo ops.length 2 (calls ops)) :
    Calls Try.prog 3 #[.int .i64 p0, .int .i64 k, vo] w (Same w (.bool true)) := by
  obtain ⟨A, c, rfl, hc⟩ := hr.slice
  have HC := Lib.hid hc
  have HR := Lib.hid (calls_cut (m := 50) hr)
  have HK := Lib.hid hk
  have hn16 := nc_le k
  obtain ⟨P, hP⟩ := Int.eq_ofNat_of_zero_le (show 0 ≤ max 0 (min p0 3) by omega)
  have HP := Lib.hid hP
  have HP4 := Lib.hid (show P < 4 by omega)
  have gk : ((nc k : Int) == 0) = false := beq_eq_false_iff_ne.2 (by omega)
  have gk2 : (nc k == 0) = false := beq_eq_false_iff_ne.2 (by omega)
  clear hP hr hc hk
  go_enter Try.func3, Try.ntmps3
  go_wp2_with fail
  with_reducible refine (alive_any _).mono ?_
  rintro x1 w1 ⟨rfl, hb1⟩
  have B1 := Lib.hid hb1
  clear hb1
  go_wp2_with fail
  with_reducible refine (near_any p0 0 3 P HP.out (by omega) _).mono ?_
  rintro x2 w2 ⟨rfl, q2, rfl⟩
  go_wp2_with fail
  with_reducible refine (rcells_any k _).mono ?_
  rintro x3 w3 ⟨rfl, hb3⟩
  have B3 := Lib.hid ((B1.out.trans ((Fr.drewN (Fr.refl No w1) q2).below B1.out.size (fun _ h => h.elim))).trans (hb3.mono B1.out.size))
  clear hb3
  go_wp2_with fail
  with_reducible refine (Mem.new_any 128 128 (by decide) _).mono ?_
  rintro x4 w4 ⟨g, v, rfl, hm4, hb4⟩
  have M4 : Hid (M w4 w.heap.size g v (List.replicate 128 0)) := Lib.hid (hm4.lower B3.out.size)
  have B4 := Lib.hid (B3.out.trans (hb4.mono B3.out.size))
  clear hm4 hb4
  go_wp2_with fail
  refine (build_yes w.heap.size g v (List.replicate 128 0) P k (by have := HP4.out; omega) HK.out (by have := HP4.out; simp; omega) _ M4.out).mono ?_
  rintro x5 w5 ⟨rfl, hm5, hf5⟩
  have HL5 : Hid ((bl (List.replicate 128 0) P k (nc k)).length = 128) := Lib.hid (by rw [bl_length _ _ _ _ (by have := HP4.out; simp; omega)]; simp)
  have HCH : Hid (Ch (bl (List.replicate 128 0) P k (nc k)) P k 0 (upTo 0 (nc k))) := Lib.hid (ch_built _ P k (by have := HP4.out; simp; omega) (nc k) 0 (by omega))
  obtain ⟨l5, hl5⟩ : ∃ l5, l5 = bl (List.replicate 128 0) P k (nc k) := ⟨_, rfl⟩
  rw [← hl5] at hm5 HL5 HCH
  have M5 := Lib.hid hm5
  have B5 := Lib.hid (B4.out.trans (M4.out.below hf5 B4.out.size))
  clear hm5 hf5 hl5 M4
  go_wp2_with fail
  have XC := Lib.hid (heap_alloc_new w5 (.cells #[.int .i64 0, .int .i64 (nc k)] 29))
  have F6 := Lib.hid (Fr.alloc (Fr.refl No w5) (.cells #[.int .i64 0, .int .i64 (nc k)] 29))
  generalize w5.alloc (.cells #[.int .i64 0, .int .i64 (nc k)] 29) = w6 at XC F6 ⊢
  obtain ⟨bc, hbc⟩ : ∃ bc, bc = w5.heap.size := ⟨_, rfl⟩
  rw [← hbc] at XC ⊢
  have NBC : Hid (¬ Foot g v bc) := Lib.hid (fun h => by have := (M5.out.foot_lt _ h).2; omega)
  have BBC : Hid (w.heap.size ≤ bc) := Lib.hid (by rw [hbc]; exact B5.out.size)
  have M6 := Lib.hid (M5.out.no F6.out)
  have B6 := Lib.hid (B5.out.trans (F6.out.below B5.out.size (fun _ h => h.elim)))
  clear hbc M5 B5 F6
  go_loopw [11, 12] (fun o i wr => ∃ j : Nat, j ≤ nc k ∧ i = .int .i64 j ∧ Hid (Nums.Own wr w6.heap.size o (upTo 0 j) ∧ Below w6.heap.size w6 wr)) (fun _ i _ => nc k - (intOf i).toNat)
  case atStart => exact ⟨0, Nat.zero_le _, rfl, Lib.hid ⟨Nums.Own.nil _ _, Below.refl _ _⟩⟩
  case round =>
    obtain ⟨j, hj, rfl, HQ⟩ := hrel
    obtain ⟨wl, hwl⟩ : ∃ x, x = wr := ⟨_, rfl⟩
    subst wr
    rename_i o
    have i1 : (0 : Int) ≤ (j : Int) := Int.natCast_nonneg _
    obtain ⟨A5, c5, rfl, hA5⟩ := HQ.out.1.slice
    by_cases hlt : j < nc k
    · have i2 : (j : Int) < (nc k : Int) := by omega
      have HJ := Lib.hid hlt
      have HS := Lib.hid (upTo_snoc j)
      have HUL := Lib.hid (upTo_len j)
      obtain ⟨t, ht⟩ : ∃ t, t = upTo 0 j := ⟨_, rfl⟩
      rw [← ht] at HQ HS HUL hA5 ⊢
      clear ht hlt
      obtain ⟨m5, hm5⟩ : ∃ m5, m5 = t.length := ⟨_, rfl⟩
      rw [← hm5] at HQ hA5 HUL ⊢
      have HM5 := Lib.hid hm5
      clear hm5
      go_wp2_with (at_builtin; refine Nums.app_one (l := t) (y := (j : Int)) rfl _ _ rfl rfl (HQ.out.1.fr (Fr.alloc (Fr.refl No _) _) (fun _ _ h => h)) rfl rfl (heap_alloc_new _ _) (by decide) (by have := HUL.out; have := HM5.out; have := HJ.out; omega) (by have := HQ.out.2.size; simp; omega) ?_; intro v6 w7 h1 h2 h3; have O6 := Lib.hid h1; have G6 := Lib.hid h2; clear h1 h2 h3)
      go_roundw
      case rel => exact ⟨j + 1, HJ.out, by go_num, Lib.hid ⟨by rw [HS.out]; exact O6.out, (Fr.grown (Fr.alloc (Fr.of_below HQ.out.2 No) _) G6.out (fun j hj => .inr (HQ.out.1.lt j hj).1)).below (Nat.le_refl _) (fun _ h => h.elim)⟩⟩
      case measure => have := HJ.out; simp [intOf]; omega
    · obtain rfl : j = nc k := by omega
      have i2 : ¬ ((nc k : Nat) : Int) < ((nc k : Nat) : Int) := by omega
      have FL := Lib.hid (Fr.of_below HQ.out.2 No)
      have IV : Hid (Inv wl w.heap.size g bc v (.slice A5 (nc k) c5) P k l5 0 (upTo 0 (nc k))) := Lib.hid ⟨M6.out.no FL.out, by rw [upTo_len]; exact FL.out.blk XC.out (fun h => h), by have h := Nums.Own.rd HQ.out.1; rw [upTo_len] at h ⊢; exact h, fun b hb => by
        have h := HQ.out.1.lt b (by rw [upTo_len]; exact hb)
        refine ⟨h.2, fun hf => ?_, fun e => ?_⟩
        · have := (M6.out.foot_lt b hf).2; omega
        · have := lt_of_blk XC.out; omega, HCH.out, upTo_nodup _, HL5.out, NBC.out, BBC.out⟩
      have BL := Lib.hid (B6.out.trans (FL.out.below B6.out.size (fun _ h => h.elim)))
      rw [upTo_len]
      clear hlt HQ FL XC M6 B6 hA5
      go_wp2_with fail
      with_reducible refine (few_any A ops.length c _ HC.out).mono ?_
      rintro x8 w8 ⟨rfl, hw8⟩
      subst hw8
      obtain ⟨no, hno⟩ : ∃ no, no = min 50 ops.length := ⟨_, rfl⟩
      obtain ⟨os, hos⟩ : ∃ os, os = ops.take 50 := ⟨_, rfl⟩
      have HNO : Hid (no = os.length) := Lib.hid (by rw [hno, hos, List.length_take])
      have HL : Hid (no ≤ 50) := Lib.hid (by omega)
      rw [← hno, ← hos] at HR
      rw [← hno]
      clear hno hos
      go_wp2_with fail
      go_loopw [10, 11, 13] (fun ok fv i wr => ∃ j : Nat, j ≤ no ∧ i = .int .i64 j ∧ ok = .bool true ∧ Hid (RunsRel w w.heap.size g bc v P k fv wr)) (fun _ _ i _ => no - (intOf i).toNat)
      case atStart => exact ⟨0, Nat.zero_le _, rfl, rfl, Lib.hid ⟨_, _, _, IV.out, BL.out⟩⟩
      case round =>
        obtain ⟨j, hj, rfl, rfl, HQ⟩ := hrel
        obtain ⟨wm, hwm⟩ : ∃ x, x = wr := ⟨_, rfl⟩
        subst wr
        rename_i fv
        obtain ⟨l, f, free, hiv, hbel⟩ := HQ.out
        obtain ⟨Af, cf, rfl, _⟩ := hiv.rd.slice
        have HIV := Lib.hid hiv
        have HBL := Lib.hid hbel
        have i1j : (0 : Int) ≤ (j : Int) := Int.natCast_nonneg _
        have hl := HL.out
        by_cases hlt : j < no
        · obtain ⟨ad, rfl, x0, x1⟩ := call_at (HR.out.below hbel) j (by rw [← HNO.out]; exact hlt)
          generalize (os[j]'(by rw [← HNO.out]; exact hlt)) = op at x0 x1
          obtain ⟨kd, i⟩ := op
          dsimp only at x0 x1
          have i2j : (j : Int) < (no : Int) := by omega
          have HJ := Lib.hid hlt
          obtain ⟨fl, hfl⟩ : ∃ fl, fl = free.length := ⟨_, rfl⟩
          rw [← hfl]
          have HFL := Lib.hid hfl
          clear HQ hbel hlt hiv hfl
          go_upto_region 19 with (fail)
          have o0 : (wm.alloc (.cells #[.int .i64 kd, .int .i64 i] 35)).cell? ⟨wm.heap.size, 0, none⟩ = some (.int .i64 kd) := cell_of (heap_alloc_new wm _) 0
          have o1 : (wm.alloc (.cells #[.int .i64 kd, .int .i64 i] 35)).cell? ⟨wm.heap.size, 1, none⟩ = some (.int .i64 i) := cell_of (heap_alloc_new wm _) 1
          have IVO := Lib.hid (HIV.out.no (Fr.alloc (Fr.refl No wm) (.cells #[.int .i64 kd, .int .i64 i] 35)))
          have BLO := Lib.hid (HBL.out.trans ((Fr.alloc (Fr.refl No wm) (.cells #[.int .i64 kd, .int .i64 i] 35)).below HBL.out.size (fun _ h => h.elim)))
          have NBO := Lib.hid (show ¬ Foot g v wm.heap.size ∧ wm.heap.size ≠ bc from ⟨fun h => by have := (HIV.out.m.foot_lt _ h).2; omega, by have := lt_of_blk HIV.out.box; omega⟩)
          generalize hbo : wm.heap.size = bo at o0 o1 NBO ⊢
          generalize wm.alloc (.cells #[.int .i64 kd, .int .i64 i] 35) = wo at o0 o1 IVO BLO ⊢
          have HBO := Lib.hid hbo
          clear x0 x1 HIV HBL hbo
          obtain ⟨b77, hb77⟩ : ∃ b77, b77 = (decide (kd = 1) && decide (0 < fl)) := ⟨_, rfl⟩
          have H77 := Lib.hid hb77
          clear hb77
          go_cut [77] from 64 to 76 (fun v77 wc => v77 = .bool b77 ∧ wc = wo)
          case first =>
            as_aux_lemma =>
              by_cases c1 : kd = 1
              · subst c1
                have hb : decide (0 < fl) = b77 := by rw [H77.out]; simp
                have HB := Lib.hid hb
                clear hb
                go_wp2_with fail
                go_meet
                case rel => exact ⟨by rw [← HB.out], rfl⟩
              · have g1 : (kd == 1) = false := by simpa using c1
                have hb : b77 = false := by rw [H77.out, decide_eq_false c1]; rfl
                have HB := Lib.hid hb
                clear hb c1
                go_wp2_with fail
                go_meet
                case rel => exact ⟨by rw [HB.out], rfl⟩
          case rest =>
          obtain ⟨rfl, hwc⟩ := hcut
          subst hwc
          obtain ⟨wp, hwp⟩ : ∃ x : World, x = wc := ⟨_, rfl⟩
          subst wc
          go_upto_if 77 with (fail)
          go_cut [10, 11] from 64 to 203 (fun v10 v11 wd => v10 = .bool true ∧ (∃ A L c, v11 = .slice A L c) ∧ Hid (RunsRel w w.heap.size g bc v P k v11 wd))
          case first =>
            as_aux_lemma =>
              obtain ⟨fl0, hfl0⟩ : ∃ x, x = fl := ⟨_, rfl⟩
              clear fl0 hfl0
              have hbx : wp.heap[bc]? = some (.cells #[.int .i64 f, .int .i64 fl] 29 (0, 0)) := by have h := IVO.out.box; rw [← HFL.out] at h; exact h
              have HBX := Lib.hid hbx
              have c0 : wp.cell? ⟨bc, 0, none⟩ = some (.int .i64 f) := cell_of hbx 0
              have c1 : wp.cell? ⟨bc, 1, none⟩ = some (.int .i64 fl) := cell_of hbx 1
              have RD : Hid (Rd wp (.slice Af fl cf) fl 1 (Nums.ints free)) := Lib.hid (by have h := IVO.out.rd; rw [← HFL.out] at h; exact h)
              have HPG := Lib.hid IVO.out.pg
              have hfl16 : (fl : Int) ≤ 16 := by have := HFL.out; have := HPG.out; omega
              have hl128 := IVO.out.len
              have HP32 := Lib.hid (show 32 * P + 32 ≤ l.length by rw [hl128]; have := HP4.out; omega)
              have HP64 := Lib.hid (show P < 64 by have := HP4.out; omega)
              clear hbx hl128
              rcases Bool.eq_false_or_eq_true b77 with hb | hb
              · -- the first one is taken
                subst hb
                have hk1 := H77.out.symm
                rw [Bool.and_eq_true, decide_eq_true_eq, decide_eq_true_eq] at hk1
                obtain ⟨hkd, hpos⟩ := hk1
                cases free with
                | nil => have := HFL.out; simp at this; omega
                | cons x r =>
                  have hch := IVO.out.ch
                  unfold Ch at hch
                  obtain ⟨hfx, hx0, hx1, y, hy, hch2⟩ := hch
                  obtain ⟨a, rfl⟩ := Int.eq_ofNat_of_zero_le hx0
                  have ha : a < nc k := by omega
                  rw [show ((a : Int)).toNat = a by omega] at hy
                  have hnd := IVO.out.nd
                  rw [List.nodup_cons] at hnd
                  obtain ⟨m, hm⟩ : ∃ m, m = r.length := ⟨_, rfl⟩
                  have hflm : fl = m + 1 := by rw [HFL.out, hm]; rfl
                  subst hfx
                  subst hflm
                  have HM := Lib.hid hm
                  have HA := Lib.hid ha
                  have HY := Lib.hid hy
                  have HCH2 := Lib.hid hch2
                  have HND := Lib.hid hnd
                  clear hkd hpos hx0 hx1 hy hch2 hnd hm ha
                  have HTK : Hid (∀ W, Fr No wp W → Calls Try.prog 12 #[.pointer (some ⟨g, 0, none⟩), .int .i64 P, .int .i64 k, .agg #[.int .i64 a, .int .i64 ((m : Int) + 1)]] W (Same W (.tuple #[.int .i64 a, .agg #[.int .i64 y, .int .i64 m], .bool true]))) := Lib.hid (fun W hW => by
                    have h := take_yes w.heap.size g v l P k a ((m : Int) + 1) HP64.out HK.out HP32.out (by omega) HA.out (by omega) y HY.out W (IVO.out.m.no hW)
                    rw [show (m : Int) + 1 - 1 = (m : Int) by omega] at h
                    exact h)
                  have HAT := Lib.hid (fun W => at_yes k P a HP64.out HA.out W)
                  have hcin := cell_in HA.out
                  obtain ⟨t, ht⟩ : ∃ t, t = 32 * P + a * sz k := ⟨_, rfl⟩
                  rw [← ht] at HAT
                  have HTL := Lib.hid (show t < l.length by have := HP32.out; omega)
                  have HTE := Lib.hid ht
                  obtain ⟨adf, rfl, z0a⟩ := Nums.rd_at RD.out 0 (by simp)
                  have z0 : wp.cell? (adf.add 0) = some (.int .i64 a) := z0a
                  have Z0 := Lib.hid z0
                  have ga : ((a : Int) == (a : Int)) = true := by simp
                  have c1 : wp.cell? ⟨bc, 1, none⟩ = some (.int .i64 ((m : Int) + 1)) := by have h := cell_of HBX.out 1; simpa using h
                  have im : (0 : Int) ≤ (m : Int) := Int.natCast_nonneg _
                  have hcf : m + 1 ≤ cf := by
                    obtain ⟨A', c', he, hc'⟩ := RD.out.slice
                    injection he with _ _ he
                    subst he
                    exact hc'
                  have hfm : (m : Int) ≤ 16 := by omega
                  clear hcin ht z0a hfl16
                  go_wp2_with fail
                  with_reducible refine (HTK.out _ (by repeat (first | exact Fr.refl _ _ | apply Fr.drewN | apply Fr.drew | apply Fr.alloc))).mono ?_
                  rintro e wa ⟨rfl, hba⟩
                  have FA := Lib.hid (show Fr No wp wa from Fr.then_below (by repeat (first | exact Fr.refl _ _ | apply Fr.drewN | apply Fr.drew | apply Fr.alloc)) hba)
                  clear hba c0 c1 z0
                  go_upto_region 21 with (fail)
                  have XT := Lib.hid (heap_alloc_new wa (.cells #[.int .i64 y, .int .i64 m] 29))
                  have FT := Lib.hid (FA.out.alloc (.cells #[.int .i64 y, .int .i64 m] 29))
                  generalize wa.alloc (.cells #[.int .i64 y, .int .i64 m] 29) = wb at XT FT ⊢
                  obtain ⟨bt, hbt⟩ : ∃ bt, bt = wa.heap.size := ⟨_, rfl⟩
                  rw [← hbt] at XT ⊢
                  have NBT := Lib.hid (show bt ≠ bc ∧ wp.heap.size ≤ bt by have := lt_of_blk HBX.out; have := FA.out.size; omega)
                  clear hbt FA
                  have z0 : wb.cell? (adf.add 0) = some (.int .i64 a) := FT.out.cell Z0.out (fun h => h)
                  have z1 : wb.cell? adf = some (.int .i64 a) := by have h := z0; unfold Addr.add at h; simpa using h
                  have XB := Lib.hid (FT.out.blk HBX.out (fun h => h))
                  have c0 : wb.cell? ⟨bc, 0, none⟩ = some (.int .i64 a) := cell_of XB.out 0
                  have c1 : wb.cell? ⟨bc, 1, none⟩ = some (.int .i64 ((m : Int) + 1)) := by have h := cell_of XB.out 1; simpa using h
                  have y0 := free_of XB.out 0
                  have y1 := free_of XB.out 1
                  have t0 : wb.cell? ⟨bt, 0, none⟩ = some (.int .i64 y) := cell_of XT.out 0
                  have t1 : wb.cell? ⟨bt, 1, none⟩ = some (.int .i64 m) := cell_of XT.out 1
                  go_wp2_with fail
                  · have hm0 : m = 0 := by omega
                    have hr0 : r = [] := List.eq_nil_of_length_eq_zero (by rw [← HM.out, hm0])
                    have HR0 := Lib.hid (show Rd wp (.slice (some adf) m 0) m 1 (Nums.ints r) by rw [hm0, hr0]; exact ⟨rfl, by simp [Nums.ints], .inr ⟨adf, 0, rfl, Nat.le_refl _, fun j v hj => by simp [Nums.ints] at hj⟩⟩)
                    clear hm0 hr0
                    have MS := Lib.hid (show M ((wb.setCell ⟨bc, 0, none⟩ (.int .i64 y)).setCell ⟨bc, 1, none⟩ (.int .i64 m)) w.heap.size g v l from (IVO.out.m.no FT.out).fr (((Fr.refl (fun b => b = bc) wb).setCell (p := ⟨bc, 0, none⟩) (.inl rfl) _).setCell (p := ⟨bc, 1, none⟩) (.inl rfl) _) (fun b hb e => NBC.out (e ▸ hb)))
                    have FS := Lib.hid (show Fr (fun b => b = bc) wp ((wb.setCell ⟨bc, 0, none⟩ (.int .i64 y)).setCell ⟨bc, 1, none⟩ (.int .i64 m)) from ((FT.out.mono (S' := fun b => b = bc) (fun _ h => h.elim)).setCell (p := ⟨bc, 0, none⟩) (.inl rfl) _).setCell (p := ⟨bc, 1, none⟩) (.inl rfl) _)
                    have XS := Lib.hid (show ((wb.setCell ⟨bc, 0, none⟩ (.int .i64 y)).setCell ⟨bc, 1, none⟩ (.int .i64 m)).heap[bc]? = some (.cells #[.int .i64 y, .int .i64 m] 29 (0, 0)) from set2_of XB.out _ _)
                    generalize (wb.setCell ⟨bc, 0, none⟩ (.int .i64 y)).setCell ⟨bc, 1, none⟩ (.int .i64 m) = wS at MS FS XS ⊢
                    with_reducible refine (HAT.out _).mono ?_
                    rintro e wh ⟨rfl, q3, rfl⟩
                    go_wp2_with fail
                    refine (store_yes w.heap.size g v l t 5 _ (MS.out.no (by repeat (first | exact Fr.refl _ _ | apply Fr.drewN | apply Fr.drew | apply Fr.alloc))) HTL.out).mono ?_
                    rintro e wi ⟨rfl, hmi, hfi⟩
                    have FI := Lib.hid (show Fr (Foot g v) wS wi from Fr.trans (by repeat (first | exact Fr.refl _ _ | apply Fr.drewN | apply Fr.drew | apply Fr.alloc)) hfi (fun i hi => .inl hi))
                    have MI := Lib.hid hmi
                    clear hmi hfi
                    go_wp2_with fail
                    go_meet
                    case rel =>
                      refine ⟨rfl, ⟨_, _, _, rfl⟩, Lib.hid ⟨l.set t 5, y, r, ?_, ?_⟩⟩
                      · have hsep := IVO.out.sep adf.block rfl
                        have FW : Fr (fun b => b = bc ∨ Foot g v b) wp wi := (FS.out.mono (fun b h => .inl h)).trans (FI.out.mono (fun b h => .inr h)) (fun i hi => .inl hi)
                        refine ⟨MI.out, ?_, ?_, ?_, ?_, HND.out.2, by rw [List.length_set]; exact IVO.out.len, NBC.out, BBC.out⟩
                        · rw [← HM.out]; exact FI.out.blk XS.out NBC.out
                        · rw [← HM.out]
                          exact (HR0.out).fr FW (fun b hb h => by
                            have hb2 : adf.block = b := by simpa [Value.ownBlock] using hb
                            subst hb2
                            exact h.elim hsep.2.2 hsep.2.1)
                        · intro b hb
                          have hb2 : adf.block = b := by simpa [Value.ownBlock] using hb
                          subst hb2
                          exact ⟨by have := hsep.1; have := FW.size; omega, hsep.2.1, hsep.2.2⟩
                        · rw [HTE.out]; exact HCH2.out.set HK.out a 5 HND.out.1
                      · exact (BLO.out.trans (FS.out.below BLO.out.size (fun b h => by rw [h]; exact BBC.out))).trans (FI.out.below (by have := BLO.out.size; have := FS.out.size; omega) (fun b h => (MS.out.foot_lt b h).1))
                  · have MS := Lib.hid (show M ((wb.setCell ⟨bc, 0, none⟩ (.int .i64 y)).setCell ⟨bc, 1, none⟩ (.int .i64 m)) w.heap.size g v l from (IVO.out.m.no FT.out).fr (((Fr.refl (fun b => b = bc) wb).setCell (p := ⟨bc, 0, none⟩) (.inl rfl) _).setCell (p := ⟨bc, 1, none⟩) (.inl rfl) _) (fun b hb e => NBC.out (e ▸ hb)))
                    have FS := Lib.hid (show Fr (fun b => b = bc) wp ((wb.setCell ⟨bc, 0, none⟩ (.int .i64 y)).setCell ⟨bc, 1, none⟩ (.int .i64 m)) from ((FT.out.mono (S' := fun b => b = bc) (fun _ h => h.elim)).setCell (p := ⟨bc, 0, none⟩) (.inl rfl) _).setCell (p := ⟨bc, 1, none⟩) (.inl rfl) _)
                    have XS := Lib.hid (show ((wb.setCell ⟨bc, 0, none⟩ (.int .i64 y)).setCell ⟨bc, 1, none⟩ (.int .i64 m)).heap[bc]? = some (.cells #[.int .i64 y, .int .i64 m] 29 (0, 0)) from set2_of XB.out _ _)
                    generalize (wb.setCell ⟨bc, 0, none⟩ (.int .i64 y)).setCell ⟨bc, 1, none⟩ (.int .i64 m) = wS at MS FS XS ⊢
                    with_reducible refine (HAT.out _).mono ?_
                    rintro e wh ⟨rfl, q3, rfl⟩
                    go_wp2_with fail
                    refine (store_yes w.heap.size g v l t 5 _ (MS.out.no (by repeat (first | exact Fr.refl _ _ | apply Fr.drewN | apply Fr.drew | apply Fr.alloc))) HTL.out).mono ?_
                    rintro e wi ⟨rfl, hmi, hfi⟩
                    have FI := Lib.hid (show Fr (Foot g v) wS wi from Fr.trans (by repeat (first | exact Fr.refl _ _ | apply Fr.drewN | apply Fr.drew | apply Fr.alloc)) hfi (fun i hi => .inl hi))
                    have MI := Lib.hid hmi
                    clear hmi hfi
                    go_wp2_with fail
                    go_meet
                    case rel =>
                      refine ⟨rfl, ⟨_, _, _, rfl⟩, Lib.hid ⟨l.set t 5, y, r, ?_, ?_⟩⟩
                      · have hsep := IVO.out.sep adf.block rfl
                        have FW : Fr (fun b => b = bc ∨ Foot g v b) wp wi := (FS.out.mono (fun b h => .inl h)).trans (FI.out.mono (fun b h => .inr h)) (fun i hi => .inl hi)
                        refine ⟨MI.out, ?_, ?_, ?_, ?_, HND.out.2, by rw [List.length_set]; exact IVO.out.len, NBC.out, BBC.out⟩
                        · rw [← HM.out]; exact FI.out.blk XS.out NBC.out
                        · rw [← HM.out]
                          exact (show Rd wp (.slice (some ⟨adf.block, adf.off + 1, none⟩) m (cf - 1)) m 1 (Nums.ints r) from by have h := Rd.tail RD.out; rw [show adf.add 1 = ⟨adf.block, adf.off + 1, none⟩ from by unfold Addr.add; rfl] at h; exact h).fr FW (fun b hb h => by
                            have hb2 : adf.block = b := by simpa [Value.ownBlock] using hb
                            subst hb2
                            exact h.elim hsep.2.2 hsep.2.1)
                        · intro b hb
                          have hb2 : adf.block = b := by simpa [Value.ownBlock] using hb
                          subst hb2
                          exact ⟨by have := hsep.1; have := FW.size; omega, hsep.2.1, hsep.2.2⟩
                        · rw [HTE.out]; exact HCH2.out.set HK.out a 5 HND.out.1
                      · exact (BLO.out.trans (FS.out.below BLO.out.size (fun b h => by rw [h]; exact BBC.out))).trans (FI.out.below (by have := BLO.out.size; have := FS.out.size; omega) (fun b h => (MS.out.foot_lt b h).1))
              · subst hb
                by_cases hk1 : kd = 1
                · -- none is there to take
                  subst hk1
                  have hz : fl = 0 := by
                    have h := H77.out
                    rw [decide_eq_true rfl, Bool.true_and] at h
                    have h2 := of_decide_eq_false h.symm
                    omega
                  subst hz
                  have HTK : Hid (∀ W, Fr No wp W → Calls Try.prog 12 #[.pointer (some ⟨g, 0, none⟩), .int .i64 P, .int .i64 k, .agg #[.int .i64 f, .int .i64 0]] W (Same W (.tuple #[.int .i64 0, .agg #[.int .i64 0, .int .i64 0], .bool false]))) := Lib.hid (fun W hW => take_no_n w.heap.size g v l P k f 0 HP64.out HK.out HP32.out (by omega) W (IVO.out.m.no hW))
                  have c1 : wp.cell? ⟨bc, 1, none⟩ = some (.int .i64 0) := cell_of HBX.out 1
                  go_wp2_with fail
                  with_reducible refine (HTK.out _ (by repeat (first | exact Fr.refl _ _ | apply Fr.drewN | apply Fr.drew | apply Fr.alloc))).mono ?_
                  rintro e wa ⟨rfl, hba⟩
                  have FA := Lib.hid (show Fr No wp wa from Fr.then_below (by repeat (first | exact Fr.refl _ _ | apply Fr.drewN | apply Fr.drew | apply Fr.alloc)) hba)
                  clear hba c0 c1
                  go_wp2_with fail
                  go_meet
                  case rel => exact ⟨rfl, ⟨_, _, _, rfl⟩, Lib.hid ⟨l, f, free, by rw [HFL.out]; exact IVO.out.no (FA.out.alloc _), BLO.out.trans ((FA.out.alloc _).below BLO.out.size (fun _ h => h.elim))⟩⟩
                have gk1 : (kd == 1) = false := by simpa using hk1
                have hout : ∀ W, Fr No wp W → RunsRel w w.heap.size g bc v P k (.slice Af fl cf) W := fun W hW => ⟨l, f, free, by rw [HFL.out]; exact IVO.out.no hW, BLO.out.trans (hW.below BLO.out.size (fun _ h => h.elim))⟩
                have HOUT := Lib.hid hout
                clear hk1 hout
                by_cases hin : 0 ≤ i ∧ i < (nc k : Int)
                · obtain ⟨ii, rfl⟩ := Int.eq_ofNat_of_zero_le hin.1
                  have hii : ii < nc k := by omega
                  have HII := Lib.hid hii
                  have g5 : decide ((0 : Int) ≤ (ii : Int)) = true := decide_eq_true hin.1
                  have g6 : decide ((ii : Int) < (nc k : Int)) = true := decide_eq_true hin.2
                  have g6b : decide (ii < nc k) = true := decide_eq_true hii
                  have g7 : decide ((ii : Int) < 0) = false := decide_eq_false (by omega)
                  have g8 : decide ((nc k : Int) ≤ (ii : Int)) = false := decide_eq_false (by omega)
                  have g8b : decide (nc k ≤ ii) = false := decide_eq_false (by omega)
                  have HINC := Lib.hid (fun W (hW : Fr No wp W) => in_any Af fl cf free (ii : Int) HFL.out W (RD.out.fr (S := No) hW (fun _ _ h => h)) (by have := HPG.out; omega))
                  clear hin hii
                  go_wp2_with fail
                  refine (HINC.out _ (by repeat (first | exact Fr.refl _ _ | apply Fr.drewN | apply Fr.drew | apply Fr.alloc))).mono ?_
                  rintro e wa ⟨rfl, q3, hwa⟩
                  have FA := Lib.hid (show Fr No wp wa from by rw [hwa]; exact (show Fr No wp _ from (by repeat (first | exact Fr.refl _ _ | apply Fr.drewN | apply Fr.drew | apply Fr.alloc))).drewN q3)
                  have OB1 : wa.cell? ⟨bo, 1, none⟩ = some (.int .i64 (ii : Int)) := FA.out.cell o1 (fun h => h)
                  have OB0 : wa.cell? ⟨bo, 0, none⟩ = some (.int .i64 kd) := FA.out.cell o0 (fun h => h)
                  clear hwa c0 c1
                  by_cases hm : (ii : Int) ∈ free
                  · rw [decide_eq_true hm]
                    clear hm
                    go_wp2_with fail
                    go_meet
                    case rel => exact ⟨rfl, ⟨_, _, _, rfl⟩, Lib.hid (HOUT.out _ FA.out)⟩
                  · rw [decide_eq_false hm]
                    have HMM := Lib.hid hm
                    clear hm
                    have hrng := IVO.out.ch.rng.1
                    have hlt : fl < nc k := by
                      have h := pig (nc k) ((ii : Int) :: free) (List.nodup_cons.2 ⟨HMM.out, IVO.out.nd⟩) (fun x hx => by
                        rw [List.mem_cons] at hx
                        rcases hx with rfl | hx
                        · have := HII.out; omega
                        · exact IVO.out.ch.rng.2 x hx)
                      rw [List.length_cons, ← HFL.out] at h
                      omega
                    have HGV := Lib.hid (fun W (hW : Fr No wp W) => give_yes w.heap.size g v l P k f fl HP64.out HK.out HP32.out ii HII.out ⟨⟨by omega, by omega⟩, hrng⟩ W (IVO.out.m.no hW))
                    have hcin := cell_in HII.out
                    obtain ⟨t, ht⟩ : ∃ t, t = 32 * P + ii * sz k := ⟨_, rfl⟩
                    rw [← ht] at HGV
                    have HTE := Lib.hid ht
                    have HCG := Lib.hid (show Ch (l.set t (-1 - f)) P k (ii : Int) ((ii : Int) :: free) by rw [ht]; exact IVO.out.ch.give ii HII.out HMM.out HP32.out)
                    have HBXA := Lib.hid (FA.out.blk HBX.out (fun h => h))
                    have c0 : wa.cell? ⟨bc, 0, none⟩ = some (.int .i64 f) := cell_of HBXA.out 0
                    have c1 : wa.cell? ⟨bc, 1, none⟩ = some (.int .i64 fl) := cell_of HBXA.out 1
                    clear hrng hlt hcin ht
                    go_wp2_with fail
                    refine (HGV.out _ (by repeat (first | exact FA.out | apply Fr.drewN | apply Fr.drew | apply Fr.alloc))).mono ?_
                    rintro e wg ⟨rfl, hmg, hfg⟩
                    have FG := Lib.hid (show Fr (Foot g v) wp wg from Fr.trans (Fr.mono (S := No) (by repeat (first | exact FA.out | apply Fr.drewN | apply Fr.drew | apply Fr.alloc)) (fun _ h => h.elim)) hfg (fun i hi => .inl hi))
                    have MG := Lib.hid hmg
                    clear hmg hfg c0 c1 OB0 OB1
                    go_upto_region 32 with (fail)
                    have XT := Lib.hid (heap_alloc_new wg (.cells #[.int .i64 ii, .int .i64 ((fl : Int) + 1)] 29))
                    have FT := Lib.hid (FG.out.alloc (.cells #[.int .i64 ii, .int .i64 ((fl : Int) + 1)] 29))
                    have FTG := Lib.hid (Fr.alloc (Fr.refl No wg) (.cells #[.int .i64 ii, .int .i64 ((fl : Int) + 1)] 29))
                    generalize wg.alloc (.cells #[.int .i64 ii, .int .i64 ((fl : Int) + 1)] 29) = wt at XT FT FTG ⊢
                    obtain ⟨bt, hbt⟩ : ∃ bt, bt = wg.heap.size := ⟨_, rfl⟩
                    rw [← hbt] at XT ⊢
                    have NBT := Lib.hid (show bt ≠ bc ∧ wp.heap.size ≤ bt by have := lt_of_blk HBX.out; have := FG.out.size; omega)
                    have MT := Lib.hid (MG.out.no FTG.out)
                    clear hbt FTG MG FG
                    have OB1 : wt.cell? ⟨bo, 1, none⟩ = some (.int .i64 (ii : Int)) := FT.out.cell o1 NBO.out.1
                    go_wp2_with (at_builtin; refine Nums.app_one (l := []) (y := (ii : Int)) (B := wt.heap.size) rfl _ _ rfl rfl (Nums.Own.nil _ _) rfl rfl (heap_alloc_new _ _) (by decide) (by decide) (by simp) ?_; intro v7 w7 h1 h2 h3; refine Hid.out ?_)
                    have O7 := Lib.hid (show Nums.Own w7 wt.heap.size v7 [(ii : Int)] from h1)
                    have F7 := Lib.hid (show Fr No wt w7 from Fr.grown (Fr.alloc (Fr.refl No wt) _) h2 (fun k hk => by cases hk))
                    obtain ⟨A7, c7, rfl, _⟩ := O7.out.slice
                    clear h1 h2 h3 OB1
                    have RD7 : Hid (Rd w7 (.slice Af fl cf) free.length 1 (Nums.ints free)) := Lib.hid (by
                      have h := IVO.out.rd
                      rw [← HFL.out] at h ⊢
                      have hs := IVO.out.sep
                      rw [← HFL.out] at hs
                      exact (h.fr FT.out (fun b hb hf => (hs b hb).2.1 hf)).fr F7.out (fun _ _ h => h))
                    refine Lib.hid ?_
                    go_wp2_with (at_builtin; refine Nums.app_own (l := [(ii : Int)]) (m := free) (B := wt.heap.size) rfl _ _ rfl rfl O7.out rfl RD7.out (by have := HPG.out; simp; omega) (by have := F7.out.size; omega) ?_; intro v8 w8 h1 h2 h3; refine Hid.out ?_)
                    have O8 := Lib.hid (show Nums.Own w8 wt.heap.size v8 ((ii : Int) :: free) from h1)
                    have F8 := Lib.hid (show Fr No wt w8 from Fr.grown F7.out h2 (fun k hk => .inr (O7.out.lt k hk).1))
                    obtain ⟨A8, c8, rfl, _⟩ := O8.out.slice
                    clear h1 h2 h3
                    have XT8 := Lib.hid (F8.out.blk XT.out (fun h => h))
                    have XB8 := Lib.hid (F8.out.blk (FT.out.blk HBX.out NBC.out) (fun h => h))
                    have d0 : w8.cell? ⟨bt, 0, none⟩ = some (.int .i64 (ii : Int)) := cell_of XT8.out 0
                    have d1 : w8.cell? ⟨bt, 1, none⟩ = some (.int .i64 ((fl : Int) + 1)) := cell_of XT8.out 1
                    have c0 : w8.cell? ⟨bc, 0, none⟩ = some (.int .i64 f) := cell_of XB8.out 0
                    have c1 : w8.cell? ⟨bc, 1, none⟩ = some (.int .i64 fl) := cell_of XB8.out 1
                    have y0 := free_of XB8.out 0
                    have y1 := free_of XB8.out 1
                    refine Lib.hid ?_
                    go_wp2_with fail
                    go_meet
                    case rel =>
                      have MF := MT.out.no F8.out
                      have hset : Fr (fun b => b = bc) w8 ((w8.setCell ⟨bc, 0, none⟩ (.int .i64 (ii : Int))).setCell ⟨bc, 1, none⟩ (.int .i64 ((fl : Int) + 1))) := ((Fr.refl (fun b => b = bc) w8).setCell (p := ⟨bc, 0, none⟩) (.inl rfl) _).setCell (p := ⟨bc, 1, none⟩) (.inl rfl) _
                      have hsep : ∀ b, (Value.slice A8 ((ii : Int) :: free).length c8).ownBlock = some b → b < w8.heap.size ∧ ¬ Foot g v b ∧ b ≠ bc := fun b hb => by
                        have h := O8.out.lt b hb
                        refine ⟨h.2, fun hf => ?_, fun e => ?_⟩
                        · have := (MT.out.foot_lt b hf).2; omega
                        · have := lt_of_blk (FT.out.blk HBX.out NBC.out); omega
                      refine ⟨rfl, ⟨_, _, _, rfl⟩, Lib.hid ⟨l.set t (-1 - f), (ii : Int), (ii : Int) :: free, ?_, ?_⟩⟩
                      · refine ⟨MF.fr hset (fun b hb e => NBC.out (e ▸ hb)), ?_, ?_, ?_, HCG.out, List.nodup_cons.2 ⟨HMM.out, IVO.out.nd⟩, by rw [List.length_set]; exact IVO.out.len, NBC.out, BBC.out⟩
                        · rw [show ((((ii : Int) :: free).length : Nat) : Int) = (fl : Int) + 1 by rw [List.length_cons, ← HFL.out]; simp]
                          exact set2_of XB8.out _ _
                        · exact (Nums.Own.rd O8.out).fr hset (fun b hb e => (hsep b hb).2.2 e)
                        · exact fun b hb => ⟨by have := (hsep b hb).1; have := hset.size; omega, (hsep b hb).2⟩
                      · have b1 := BLO.out.trans (FT.out.below BLO.out.size (fun b h => (IVO.out.m.foot_lt b h).1))
                        have b2 := b1.trans (F8.out.below b1.size (fun _ h => h.elim))
                        exact b2.trans (hset.below b2.size (fun b h => by rw [h]; exact BBC.out))
                · have gno : ¬ GiveOk l P k f fl i := fun h => hin h.2.1
                  have HGV := Lib.hid (fun W (hW : Fr No wp W) => give_no w.heap.size g v l P k f fl i gno W (IVO.out.m.no hW))
                  by_cases hi1 : i < 0
                  · have g5 : decide (0 ≤ i) = false := decide_eq_false (by omega)
                    clear hin gno
                    go_wp2_with fail
                    with_reducible refine (HGV.out _ (by repeat (first | exact Fr.refl _ _ | apply Fr.drewN | apply Fr.drew | apply Fr.alloc))).mono ?_
                    rintro e wa ⟨rfl, hba⟩
                    have FA := Lib.hid (show Fr No wp wa from Fr.then_below (by repeat (first | exact Fr.refl _ _ | apply Fr.drewN | apply Fr.drew | apply Fr.alloc)) hba)
                    clear hba c0 c1
                    go_wp2_with fail
                    go_meet
                    case rel => exact ⟨rfl, ⟨_, _, _, rfl⟩, Lib.hid (HOUT.out _ (FA.out.alloc _))⟩
                  · have g5 : decide (0 ≤ i) = true := decide_eq_true (by omega)
                    have g6 : decide (i < (nc k : Int)) = false := decide_eq_false (by omega)
                    have g7 : decide (i < 0) = false := decide_eq_false hi1
                    have g8 : decide ((nc k : Int) ≤ i) = true := decide_eq_true (by omega)
                    clear hin gno hi1
                    go_wp2_with fail
                    with_reducible refine (HGV.out _ (by repeat (first | exact Fr.refl _ _ | apply Fr.drewN | apply Fr.drew | apply Fr.alloc))).mono ?_
                    rintro e wa ⟨rfl, hba⟩
                    have FA := Lib.hid (show Fr No wp wa from Fr.then_below (by repeat (first | exact Fr.refl _ _ | apply Fr.drewN | apply Fr.drew | apply Fr.alloc)) hba)
                    clear hba c0 c1
                    go_wp2_with fail
                    go_meet
                    case rel => exact ⟨rfl, ⟨_, _, _, rfl⟩, Lib.hid (HOUT.out _ (FA.out.alloc _))⟩
          case rest =>
          obtain ⟨rfl, ⟨A2, L2, d2, rfl⟩, HQ2⟩ := hcut
          obtain ⟨l2, f2, fr2, hiv2, hb2⟩ := HQ2.out
          obtain ⟨wd, hwd⟩ : ∃ x : World, x = wc := ⟨_, rfl⟩
          subst wc
          obtain ⟨A3, d3, he, _⟩ := hiv2.rd.slice
          injection he with he1 he2 he3
          subst he1
          subst he2
          subst he3
          have hall : allS l2 P k f2 (fr2.length : Int) = some fr2 := hiv2.ch.all hiv2.nd (by have := HP4.out; omega) HK.out (by rw [hiv2.len]; have := HP4.out; omega) rfl
          have HALL := Lib.hid hall
          have IV2 := Lib.hid hiv2
          have BL2 := Lib.hid hb2
          have HPG := Lib.hid hiv2.pg
          obtain ⟨L3, hL3⟩ : ∃ L3, L3 = fr2.length := ⟨_, rfl⟩
          have R2 : Hid (Rd wd (.slice A2 L3 d2) L3 1 (Nums.ints fr2)) := Lib.hid (by have h := hiv2.rd; rw [← hL3] at h; exact h)
          have hbx := hiv2.box
          rw [← hL3] at hbx HALL ⊢
          have HL3 := Lib.hid hL3
          have HBX := Lib.hid hbx
          have c0 : wd.cell? ⟨bc, 0, none⟩ = some (.int .i64 f2) := cell_of hbx 0
          have c1 : wd.cell? ⟨bc, 1, none⟩ = some (.int .i64 L3) := cell_of hbx 1
          have gl : ((L3 : Int) == (L3 : Int)) = true := by simp
          clear HQ2 hiv2 hb2 hall hL3 hbx o0 o1
          go_wp2_with fail
          refine (all_any w.heap.size g v l2 P k f2 L3 _ (IV2.out.m.no (by repeat (first | exact Fr.refl _ _ | apply Fr.drewN | apply Fr.drew | apply Fr.alloc)))).mono ?_
          intro x9 w9 hp9
          rw [HALL.out] at hp9
          obtain ⟨v9, rfl, ho9, hb9⟩ := hp9
          obtain ⟨A9, d9, rfl, _⟩ := ho9.slice
          have F9 := Lib.hid (show Fr No wd w9 from Fr.then_below (by repeat (first | exact Fr.refl _ _ | apply Fr.drewN | apply Fr.drew | apply Fr.alloc)) hb9)
          have R9 : Hid (Rd w9 (.slice A9 L3 d9) L3 1 (Nums.ints fr2)) := Lib.hid (by have h := Nums.Own.rd ho9; rw [← HL3.out] at h; exact h)
          rw [← HL3.out]
          clear ho9 hb9 c0 c1
          have XB9 := Lib.hid (F9.out.blk HBX.out (fun h => h))
          go_wp2_with fail
          refine (Nums.same_any A9 A2 L3 L3 d9 d2 fr2 HL3.out HL3.out _ (R9.out.fr (S := No) (by repeat (first | exact Fr.refl _ _ | apply Fr.drewN | apply Fr.drew | apply Fr.alloc)) (fun _ _ h => h)) (R2.out.fr (S := No) (by repeat (first | exact F9.out | apply Fr.drewN | apply Fr.drew | apply Fr.alloc)) (fun _ _ h => h)) (by have := HPG.out; omega)).mono ?_
          rintro x10 w10 ⟨rfl, q10, hw10⟩
          have F10 := Lib.hid (show Fr No wd w10 from by rw [hw10]; exact (show Fr No wd _ from (by repeat (first | exact F9.out | apply Fr.drewN | apply Fr.drew | apply Fr.alloc))).drewN q10)
          have XB10 := Lib.hid (F10.out.blk HBX.out (fun h => h))
          have c1 : w10.cell? ⟨bc, 1, none⟩ = some (.int .i64 L3) := cell_of XB10.out 1
          clear hw10
          go_wp2_with fail
          go_roundw
          case rel => exact ⟨j + 1, HJ.out, by go_num, rfl, Lib.hid ⟨l2, f2, fr2, by rw [HL3.out]; exact IV2.out.no F10.out, BL2.out.trans (F10.out.below BL2.out.size (fun _ h => h.elim))⟩⟩
          case measure => have := HJ.out; simp [intOf]; omega
        · obtain rfl : j = no := by omega
          have i2j : ¬ (j : Int) < (j : Int) := by omega
          clear hlt hbel hiv
          go_wp2_with fail
          go_ret
          exact ⟨rfl, HBL.out⟩

theorem runs_any (p k : Int) (vo : Value) (ops : List (Int × Int)) (w : World) (hr : Rd w vo ops.length 2 (calls ops)) :
    Calls Try.prog 3 #[.int .i64 p, .int .i64 k, vo] w (Same w (.bool true)) := by
  by_cases hk : nc k = 0
  · exact runs_none p k vo ops hk w
  · exact runs_some p k vo ops (by omega) w hr

end Go.Proofs.Ytbndmcblkfaheaa.Chain
