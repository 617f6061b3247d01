/- Proved: the law ChainTells of package scutagelaw08 over any arguments. -/
import Derived.Test.YtbndmcblkfaheaaChainBuilds
import Derived.Deep.CutRange
namespace Go.Proofs.Ytbndmcblkfaheaa.Chain
open Go.RowKit Go.Proofs.Ytbndmcblkfaheaa.H Go.Proofs.Ytbndmcblkfaheaa.Words Go.Proofs.Ytbndmcblkfaheaa.Mem
set_option linter.unusedVariables false
set_option linter.unusedSimpArgs false

def UniPost (o : Option (List Int)) (w : World) (e : Ending) (w' : World) : Prop :=
  ∃ A c, e = .returned (.tuple #[.slice A (o.getD []).length c, .bool o.isSome]) ∧ Nums.Own w' w.heap.size (.slice A (o.getD []).length c) (o.getD []) ∧ Below w.heap.size w w'

theorem AllPost.uni {o : Option (List Int)} {w : World} {e : Ending} {w' : World} (h : AllPost o w e w') : UniPost o w e w' := by
  cases o with
  | none => exact ⟨none, 0, h.1, Nums.Own.nil _ _, h.2⟩
  | some r =>
    obtain ⟨v', h1, h2, h3⟩ := h
    obtain ⟨A, c, rfl, _⟩ := h2.slice
    exact ⟨A, c, h1, h2, h3⟩

def TakePost (f n : Int) (o : Option Int) (w : World) (e : Ending) (w' : World) : Prop :=
  ∃ a y m, e = .returned (.tuple #[.int .i64 a, .agg #[.int .i64 y, .int .i64 m], .bool o.isSome]) ∧ (∀ z, o = some z → a = f ∧ y = z ∧ m = n - 1) ∧ Below w.heap.size w w'

theorem take_uni (B g : Nat) (v : Value) (l : List Int) (p k f n : Int) (h63 : n ≤ 9223372036854775807) (w : World) (hs : M w B g v l) :
    Calls Try.prog 12 #[.pointer (some ⟨g, 0, none⟩), .int .i64 p, .int .i64 k, .agg #[.int .i64 f, .int .i64 n]] w (TakePost f n (takeS l p k f n) w) := by
  refine (take_any B g v l p k f n h63 w hs).mono ?_
  rintro e w' ⟨rfl, hb⟩
  cases takeS l p k f n with
  | none => exact ⟨0, 0, 0, rfl, (fun z h => by cases h), hb⟩
  | some y => exact ⟨f, y, n - 1, rfl, (fun z h => by injection h with h; exact ⟨rfl, h, rfl⟩), hb⟩

instance (l : List Int) (p k f n i : Int) : Decidable (GiveOk l p k f n i) := by unfold GiveOk; infer_instance

def giveL (l : List Int) (p k f n i : Int) : List Int := if GiveOk l p k f n i then l.set (32 * p.toNat + i.toNat * sz k) (-1 - f) else l

def GiveUni (B g : Nat) (v : Value) (l : List Int) (p k f n i : Int) (w : World) (e : Ending) (w' : World) : Prop :=
  ∃ c0 c1 b, e = .returned (.tuple #[.agg #[.int .i64 c0, .int .i64 c1], .bool b]) ∧ b = decide (GiveOk l p k f n i) ∧ M w' B g v (giveL l p k f n i) ∧ Fr (Foot g v) w w' ∧ (GiveOk l p k f n i → c0 = i ∧ c1 = n + 1) ∧ (¬ GiveOk l p k f n i → c0 = 0 ∧ c1 = 0)

theorem give_uni (B g : Nat) (v : Value) (l : List Int) (p k f n i : Int) (w : World) (hs : M w B g v l) :
    Calls Try.prog 16 #[.pointer (some ⟨g, 0, none⟩), .int .i64 p, .int .i64 k, .agg #[.int .i64 f, .int .i64 n], .int .i64 i] w (GiveUni B g v l p k f n i w) := by
  by_cases hh : GiveOk l p k f n i
  · obtain ⟨⟨h1, h2, h3, h4⟩, ⟨h5, h6⟩, h7, h8⟩ := id hh
    obtain ⟨q, rfl⟩ := Int.eq_ofNat_of_zero_le h1
    obtain ⟨j, rfl⟩ := Int.eq_ofNat_of_zero_le h5
    refine (give_yes B g v l q k f n (by omega) h3 (by omega) j (by omega) ⟨h7, h8⟩ w hs).mono ?_
    rintro e w' ⟨rfl, hm, hf⟩
    refine ⟨j, n + 1, true, rfl, (decide_eq_true hh).symm, ?_, hf, fun _ => ⟨rfl, rfl⟩, fun h => absurd hh h⟩
    unfold giveL
    rw [if_pos hh]
    exact hm
  · refine (give_no B g v l p k f n i hh w hs).mono ?_
    rintro e w' ⟨rfl, hb⟩
    refine ⟨0, 0, false, rfl, (decide_eq_false hh).symm, ?_, Fr.of_below hb _, fun h => absurd h hh, fun _ => ⟨rfl, rfl⟩⟩
    unfold giveL
    rw [if_neg hh]
    exact hs.no (Fr.of_below hb No)

theorem allS_len (l : List Int) (p k f n : Int) : ((allS l p k f n).getD []).length ≤ 16 := by
  cases h : allS l p k f n with
  | none => simp
  | some r =>
    unfold allS at h
    split at h
    · rename_i hc
      have h1 := go_len l p.toNat k n.toNat f [] r h
      have h2 := nc_le k
      simp at h1 ⊢
      omega
    · cases h

theorem lk_pos {l : List Int} {p : Nat} {k : Int} {i : Nat} {y : Int} (h : lk l p k i = some y) : 0 ≤ y := by
  unfold lk at h
  split at h
  · cases h
  · split at h
    · cases h
    · injection h with h; omega

theorem lk_isSome (l : List Int) (p : Nat) (k : Int) (i : Nat) : decide (0 ≤ (lk l p k i).getD (-1)) = (lk l p k i).isSome := by
  cases h : lk l p k i with
  | none => rfl
  | some y => have := lk_pos h; simp; omega

attribute [local irreducible] nc sz

set_option maxRecDepth 100000 in
set_option maxHeartbeats 25600000 in
theorem tells_any (v0 : Value) (x0 : List Int) (k f n i : Int) (h63 : n ≤ 9223372036854775807) (w : World) (hr0 : Rd w v0 x0.length 1 (ints x0)) :
    Calls Try.prog 5 #[v0, .int .i64 k, .agg #[.int .i64 f, .int .i64 n], .int .i64 i] w (Same w (.bool true)) := by
  obtain ⟨A0, d0, rfl, hd0⟩ := hr0.slice
  have HR0 := Lib.hid hr0
  have H63 := Lib.hid h63
  clear hr0 h63
  go_enter Try.func5, Try.ntmps5
  go_wp2_with fail
  have F0 := Lib.hid (Fr.alloc (Fr.refl No w) (.cells #[.int .i64 f, .int .i64 n] 29))
  have XB0 := Lib.hid (heap_alloc_new w (.cells #[.int .i64 f, .int .i64 n] 29))
  generalize w.alloc (.cells #[.int .i64 f, .int .i64 n] 29) = w0 at F0 XB0 ⊢
  with_reducible refine (alive_any _).mono ?_
  rintro x1 w1 ⟨rfl, hb1⟩
  have F1 := Lib.hid (F0.out.trans (Fr.of_below hb1 No) (fun i (h : No i) => h.elim))
  have XB1 := Lib.hid ((Fr.of_below hb1 No).blk XB0.out (fun h => h))
  clear hb1 F0 XB0
  go_wp2_with fail
  with_reducible refine (rcells_any k _).mono ?_
  rintro x2 w2 ⟨rfl, hb2⟩
  have F2 := Lib.hid (F1.out.trans (Fr.of_below hb2 No) (fun i (h : No i) => h.elim))
  have XB2 := Lib.hid ((Fr.of_below hb2 No).blk XB1.out (fun h => h))
  clear hb2 F1 XB1
  go_wp2_with fail
  with_reducible refine (rsize_any k _).mono ?_
  rintro x3 w3 ⟨rfl, hb3⟩
  have F3 := Lib.hid (F2.out.trans (Fr.of_below hb3 No) (fun i (h : No i) => h.elim))
  have XB3 := Lib.hid ((Fr.of_below hb3 No).blk XB2.out (fun h => h))
  clear hb3 F2 XB2
  go_upto_if 36 with (fail)
  go_cut [0] (fun v wc => ∃ l : List Int, v = .slice A0 l.length d0 ∧ l.length ≤ 64 ∧ Hid (Rd w (.slice A0 l.length d0) l.length 1 (ints l)) ∧ wc = w3)
  case first =>
    as_aux_lemma =>
      by_cases h3 : 64 < x0.length
      · have e3 : (x0.take 64).length = 64 := by rw [List.length_take]; omega
        have E3 := Lib.hid e3
        clear e3
        go_wp2
        go_meet
        case rel =>
          have ht := HR0.out.take (m := 64) (by omega)
          rw [Nat.mul_one, ints_take] at ht
          exact ⟨x0.take 64, by rw [E3.out], by have := E3.out; omega, Lib.hid (by rw [E3.out]; exact ht), rfl⟩
      · go_wp2
        go_meet
        case rel => exact ⟨x0, rfl, by omega, HR0, rfl⟩
  case rest =>
    obtain ⟨l, rfl, hl, HR, hwc⟩ := hcut
    subst hwc
    clear HR0 hd0
    have hm : max 0 (min (l.length : Int) 2048) = (l.length : Int) := by omega
    have HM := Lib.hid hm
    clear hm
    go_wp2_with fail
    with_reducible refine (Mem.new_any l.length l.length HM.out _).mono ?_
    rintro x4 w4 ⟨g, v, rfl, hs4, hb4⟩
    have S4 := Lib.hid (hs4.lower (B' := w.heap.size) F3.out.size)
    have F4 := Lib.hid (F3.out.trans (Fr.of_below hb4 No) (fun i (h : No i) => h.elim))
    have XB4 := Lib.hid ((Fr.of_below hb4 No).blk XB3.out (fun h => h))
    have NF : Hid (¬ Foot g v w.heap.size) := Lib.hid (fun h => by have h1 := (hs4.foot_lt _ h).1; have h2 := lt_of_blk XB3.out; omega)
    clear hs4 hb4 XB3 F3
    go_wp2_with fail
    go_loopw [12] (fun i wr => ∃ j : Nat, j ≤ l.length ∧ i = .int .i64 j ∧ Hid (M wr w.heap.size g v (l.take j ++ List.replicate (l.length - j) 0) ∧ Fr (Foot g v) w4 wr)) (fun i _ => l.length - (intOf i).toNat)
    case atStart => exact ⟨0, Nat.zero_le _, rfl, Lib.hid ⟨by simpa using S4.out, Fr.refl _ _⟩⟩
    case round =>
      obtain ⟨j, hj, rfl, HQ⟩ := hrel
      obtain ⟨wl, hwl⟩ : ∃ x, x = wr := ⟨_, rfl⟩
      subst wr
      have i1 : (0 : Int) ≤ (j : Int) := Int.natCast_nonneg _
      have HBL := Lib.hid (show Below w.heap.size w wl from (F4.out.below (Nat.le_refl _) (fun _ h => h.elim)).trans (S4.out.below HQ.out.2 F4.out.size))
      by_cases hlt : j < l.length
      · obtain ⟨ad, rfl, x0a⟩ := rd_at (HR.out.below HBL.out) j hlt
        have i2 : (j : Int) < (l.length : Int) := by omega
        have hset : (l.take j ++ List.replicate (l.length - j) 0).set j l[j] = l.take (j + 1) ++ List.replicate (l.length - (j + 1)) 0 := by
          rw [List.set_append_right _ _ (by simp; omega), show j - (l.take j).length = 0 by simp; omega, show l.length - j = (l.length - (j + 1)) + 1 by omega, List.replicate_succ, List.set_cons_zero, List.take_add_one, List.getElem?_eq_getElem hlt, List.append_assoc]
          rfl
        have hlen : j < (l.take j ++ List.replicate (l.length - j) 0).length := by simp; omega
        obtain ⟨y, hy, x0⟩ : ∃ y, l[j] = y ∧ wl.cell? (ad.add j) = some (.int .i64 y) := ⟨_, rfl, x0a⟩
        rw [hy] at hset
        have HSET := Lib.hid hset
        have HLEN := Lib.hid hlen
        have HJ := Lib.hid hlt
        clear hset hlen hlt hy x0a
        go_wp2_with fail
        with_reducible refine (store_yes w.heap.size g v _ j y _ HQ.out.1 HLEN.out).mono ?_
        rintro x5 w5 ⟨rfl, hm5, hf5⟩
        rw [HSET.out] at hm5
        have M5 := Lib.hid hm5
        have F5 := Lib.hid (HQ.out.2.trans hf5 (fun i hi => .inl hi))
        clear hm5 hf5
        go_wp2_with fail
        go_roundw
        case rel => exact ⟨j + 1, HJ.out, by go_num, Lib.hid ⟨M5.out, F5.out⟩⟩
        case measure => have := HJ.out; simp [intOf]; omega
      · obtain rfl : j = l.length := by omega
        have i2 : ¬ (l.length : Int) < (l.length : Int) := by omega
        have M5 : Hid (M wl w.heap.size g v l) := Lib.hid (by have h := HQ.out.1; rw [List.take_length, Nat.sub_self, List.replicate_zero, List.append_nil] at h; exact h)
        have XB5 := Lib.hid (HQ.out.2.blk XB4.out NF.out)
        obtain ⟨q, hq⟩ : ∃ q, q = l.length / 32 := ⟨_, rfl⟩
        have e1 : Int.tdiv (l.length : Int) 32 = (q : Int) := by rw [hq]; rfl
        have i3 : (q : Int) ≤ 2 := by omega
        have i4 : (0 : Int) ≤ (q : Int) := Int.natCast_nonneg _
        have b0 : wl.cell? ⟨w.heap.size, 0, none⟩ = some (.int .i64 f) := cell_of XB5.out 0
        have b1 : wl.cell? ⟨w.heap.size, 1, none⟩ = some (.int .i64 n) := cell_of XB5.out 1
        obtain ⟨P, hP⟩ : ∃ P, (q : Int) - 1 = P := ⟨_, rfl⟩
        have HP := Lib.hid hP
        have HQ32 := Lib.hid hq
        clear HQ hlt hq F4 S4 XB4
        go_wp2_with fail
        refine (all_any w.heap.size g v l P k f n _ M5.out).mono ?_
        intro x6 w6 hp6
        obtain ⟨A6, c6, rfl, ho6, hb6⟩ := hp6.uni
        obtain ⟨oa, hoa⟩ : ∃ oa, oa = allS l P k f n := ⟨_, rfl⟩
        rw [← hoa] at ho6 ⊢
        have HOA := Lib.hid hoa
        have F6 := Lib.hid (Fr.of_below hb6 No)
        have XB6 := Lib.hid (F6.out.blk XB5.out (fun h => h))
        have O6 := Lib.hid ho6
        obtain ⟨oL, hoL⟩ : ∃ oL, oL = (oa.getD []).length := ⟨_, rfl⟩
        rw [← hoL] at O6 ⊢
        have HOL := Lib.hid hoL
        obtain ⟨ob, hob⟩ : ∃ ob, ob = oa.isSome := ⟨_, rfl⟩
        rw [← hob]
        have HOB := Lib.hid hob
        clear hp6 ho6 hb6 b0 b1 hoa hoL hob
        have b0 : w6.cell? ⟨w.heap.size, 0, none⟩ = some (.int .i64 f) := cell_of XB6.out 0
        have b1 : w6.cell? ⟨w.heap.size, 1, none⟩ = some (.int .i64 n) := cell_of XB6.out 1
        go_wp2_with fail
        refine (take_uni w.heap.size g v l P k f n H63.out _ (M5.out.no F6.out)).mono ?_
        rintro x7 w7 ⟨ta, ty, tm, rfl, ht7, hb7⟩
        obtain ⟨ot, hot⟩ : ∃ ot, ot = takeS l P k f n := ⟨_, rfl⟩
        rw [← hot] at ht7 ⊢
        have HOT := Lib.hid hot
        obtain ⟨tb, htb⟩ : ∃ tb, tb = ot.isSome := ⟨_, rfl⟩
        rw [← htb]
        have HTB := Lib.hid htb
        have HT7 := Lib.hid ht7
        have F7 := Lib.hid (F6.out.trans (Fr.of_below hb7 No) (fun i (h : No i) => h.elim))
        have XB7 := Lib.hid ((Fr.of_below hb7 No).blk XB6.out (fun h => h))
        have O7 : Hid (Nums.Own w7 wl.heap.size (.slice A6 oL c6) (oa.getD [])) := Lib.hid (O6.out.fr (Fr.of_below hb7 No) (fun _ _ h => h))
        clear hot htb ht7 hb7 b0 b1 O6
        go_upto_region 14 with (fail)
        have XT8 := Lib.hid (heap_alloc_new w7 (.cells #[.int .i64 ty, .int .i64 tm] 29))
        have F8 := Lib.hid (F7.out.alloc (.cells #[.int .i64 ty, .int .i64 tm] 29))
        have XB8 := Lib.hid (alloc_of XB7.out (.cells #[.int .i64 ty, .int .i64 tm] 29))
        have O8 : Hid (Nums.Own (w7.alloc (.cells #[.int .i64 ty, .int .i64 tm] 29)) wl.heap.size (.slice A6 oL c6) (oa.getD [])) := Lib.hid (O7.out.fr (Fr.alloc (Fr.refl No _) _) (fun _ _ h => h))
        generalize w7.alloc (.cells #[.int .i64 ty, .int .i64 tm] 29) = w8 at XT8 F8 XB8 O8 ⊢
        obtain ⟨bt, hbt⟩ : ∃ bt, bt = w7.heap.size := ⟨_, rfl⟩
        rw [← hbt] at XT8 ⊢
        clear F6 XB6 F7 XB7 O7 XB5 e1 hbt
        have M8 := Lib.hid (M5.out.no F8.out)
        have B8 := Lib.hid (HBL.out.trans (F8.out.below HBL.out.size (fun _ h => h.elim)))
        clear F8 M5 HBL
        have b0 : w8.cell? ⟨w.heap.size, 0, none⟩ = some (.int .i64 f) := cell_of XB8.out 0
        have b1 : w8.cell? ⟨w.heap.size, 1, none⟩ = some (.int .i64 n) := cell_of XB8.out 1
        by_cases hbad : P < 0 ∨ nc k = 0
        · have hno : ¬ Op l P k := fun h => hbad.elim (fun h1 => by have := h.1; omega) (fun h1 => by have := h.2.2.1; omega)
          have hoa2 : ob = false := by rw [HOB.out, HOA.out]; unfold allS; rw [if_neg (fun h => hno h.1)]; rfl
          have htb2 : tb = false := by rw [HTB.out, HOT.out]; unfold takeS; rw [if_neg (fun h => hno h.1)]; rfl
          have HNG := Lib.hid (show ¬ GiveOk l P k f n i from fun h => hno h.1)
          subst hoa2
          subst htb2
          clear hno
          go_cut [81] from 76 to 80 (fun v81 wc => v81 = .bool true ∧ wc = w8)
          case first =>
            as_aux_lemma =>
              by_cases h1 : P < 0
              · clear hbad
                go_wp2_with fail
                go_meet
                case rel => exact ⟨rfl, rfl⟩
              · have h2 : nc k = 0 := by omega
                have g1 : decide (P < 0) = false := decide_eq_false h1
                have g2 : ((nc k : Int) == 0) = true := by rw [h2]; rfl
                have g3 : (nc k == 0) = true := by rw [h2]; rfl
                clear hbad h1
                go_wp2_with fail
                go_meet
                case rel => exact ⟨rfl, rfl⟩
          case rest =>
            obtain ⟨rfl, hwc⟩ := hcut
            subst hwc
            go_wp2_with fail
            refine (give_uni w.heap.size g v l P k f n i _ M8.out).mono ?_
            rintro x9 w9 ⟨c0, c1, bb, rfl, hbb, hm9, hf9, _, _⟩
            rw [decide_eq_false HNG.out] at hbb
            subst hbb
            unfold giveL at hm9
            rw [if_neg HNG.out] at hm9
            have M9 := Lib.hid hm9
            have B9 := Lib.hid (B8.out.trans (M8.out.below hf9 B8.out.size))
            clear hm9 hf9 hbad b0 b1
            go_wp2_with fail
            refine (Mem.all_any w.heap.size g v l _ (M9.out.no (by repeat (first | exact Fr.refl _ _ | apply Fr.drewN | apply Fr.drew | apply Fr.alloc)))).mono ?_
            rintro x10 w10 ⟨v10, rfl, ho10, hb10⟩
            obtain ⟨A10, d10, rfl, _⟩ := ho10.slice
            have F10 := Lib.hid (show Fr No w9 w10 from Fr.then_below (by repeat (first | exact Fr.refl _ _ | apply Fr.drewN | apply Fr.drew | apply Fr.alloc)) hb10)
            have R10 := Lib.hid ho10.rd
            have B10 := Lib.hid (B9.out.trans (F10.out.below B9.out.size (fun _ h => h.elim)))
            clear ho10 hb10
            go_wp2_with fail
            refine (Words.same_any A10 A0 l.length l.length d10 d0 l rfl rfl _ (R10.out.fr (S := No) (by repeat (first | exact Fr.refl _ _ | apply Fr.drewN | apply Fr.drew | apply Fr.alloc)) (fun _ _ h => h)) (HR.out.below (B10.out.trans (Fr.below (S := No) (by repeat (first | exact Fr.refl _ _ | apply Fr.drewN | apply Fr.drew | apply Fr.alloc)) B10.out.size (fun _ h => h.elim)))) (by omega)).mono ?_
            rintro x11 w11 ⟨rfl, q11, rfl⟩
            go_wp2_with fail
            go_ret
            exact ⟨rfl, B10.out.trans (Fr.below (S := No) (by repeat (first | exact Fr.refl _ _ | apply Fr.drewN | apply Fr.drew | apply Fr.alloc)) B10.out.size (fun _ h => h.elim))⟩
        · have hk : 0 < nc k := by omega
          obtain ⟨p, hpp⟩ := Int.eq_ofNat_of_zero_le (show 0 ≤ P by omega)
          have hpq : q = p + 1 := by omega
          have hp64 : p < 64 := by omega
          have hl32 : 32 * p + 32 ≤ l.length := by have := HQ32.out; omega
          subst hpp
          have HK := Lib.hid hk
          have HP64 := Lib.hid hp64
          have HL32 := Lib.hid hl32
          have HOP := Lib.hid (show Op l p k from ⟨by omega, by omega, hk, by omega⟩)
          have g1 : decide ((p : Int) < 0) = false := decide_eq_false (by omega)
          have g2 : ((nc k : Int) == 0) = false := beq_eq_false_iff_ne.2 (by omega)
          have g3 : (nc k == 0) = false := beq_eq_false_iff_ne.2 (by omega)
          have i5 : (0 : Int) ≤ (p : Int) := Int.natCast_nonneg _
          have i6 : (p : Int) ≤ 1 := by omega
          have gb : (ob != ob) = false := by simp
          clear hbad hpq hP HP HQ32 hk hp64 hl32
          go_wp2_with fail
          refine (walk_any A0 d0 l p k f n HP64.out HL32.out (by omega) _ (HR.out.below (B8.out.trans (Fr.below (S := No) (by repeat (first | exact Fr.refl _ _ | apply Fr.drewN | apply Fr.drew | apply Fr.alloc)) B8.out.size (fun _ h => h.elim))))).mono ?_
          intro x9 w9 hp9
          rw [walk_all l p k f n HP64.out HK.out HL32.out] at hp9
          obtain ⟨A9, c9, rfl, ho9, hb9⟩ := hp9.uni
          rw [← HOA.out, ← HOL.out] at ho9
          rw [← HOA.out, ← HOL.out, ← HOB.out]
          have F9 := Lib.hid (show Fr No w8 w9 from Fr.then_below (by repeat (first | exact Fr.refl _ _ | apply Fr.drewN | apply Fr.drew | apply Fr.alloc)) hb9)
          have R9 : Hid (Rd w9 (.slice A9 oL c9) oL 1 (Nums.ints (oa.getD []))) := Lib.hid (by have h := Nums.Own.rd ho9; rw [← HOL.out] at h; exact h)
          have R6 : Hid (Rd w9 (.slice A6 oL c6) oL 1 (Nums.ints (oa.getD []))) := Lib.hid (by have h := Nums.Own.rd (O8.out.fr F9.out (fun _ _ h => h)); rw [← HOL.out] at h; exact h)
          have HBND : Hid ((oa.getD []).length ≤ 16) := Lib.hid (by rw [HOA.out]; exact allS_len l p k f n)
          clear hp9 ho9 hb9 O8
          go_upto_region 18 with (fail)
          go_cut [123] from 115 to 122 (fun v123 wc => v123 = .bool false ∧ Hid (Fr No w8 wc))
          case first =>
            as_aux_lemma =>
              go_wp2_with fail
              refine (Nums.same_any A6 A9 oL oL c6 c9 (oa.getD []) HOL.out HOL.out _ (R6.out.fr (S := No) (by repeat (first | exact Fr.refl _ _ | apply Fr.drewN | apply Fr.drew | apply Fr.alloc)) (fun _ _ h => h)) (R9.out.fr (S := No) (by repeat (first | exact Fr.refl _ _ | apply Fr.drewN | apply Fr.drew | apply Fr.alloc)) (fun _ _ h => h)) (by have := HBND.out; omega)).mono ?_
              rintro x10 w10 ⟨rfl, q10, hw10⟩
              have F10 := Lib.hid (show Fr No w8 w10 from by rw [hw10]; exact (show Fr No w8 _ from (by repeat (first | exact F9.out | apply Fr.drewN | apply Fr.drew | apply Fr.alloc))).drewN q10)
              clear hw10
              go_wp2_with fail
              go_meet
              case rel => exact ⟨rfl, F10⟩
          case rest =>
          obtain ⟨rfl, HF10⟩ := hcut
          obtain ⟨wq, rfl⟩ : ∃ x : World, x = wc := ⟨_, rfl⟩
          clear b0 b1
          have XB10 := Lib.hid (HF10.out.blk XB8.out (fun h => h))
          have b0 : wq.cell? ⟨w.heap.size, 0, none⟩ = some (.int .i64 f) := cell_of XB10.out 0
          have b1 : wq.cell? ⟨w.heap.size, 1, none⟩ = some (.int .i64 n) := cell_of XB10.out 1
          clear R9 R6 F9 gb
          go_upto_region 20 with (fail)
          go_cut [23] from 124 to 146 (fun v23 wd => v23 = .bool tb ∧ Hid (Fr No w8 wd))
          case first =>
            as_aux_lemma =>
              by_cases c1 : n < 1
              · have ht : tb = false := by rw [HTB.out, HOT.out]; unfold takeS; rw [if_neg (fun h => by have := h.2.1; omega)]; rfl
                have g4 : decide (0 < n) = false := decide_eq_false (by omega)
                have HH := Lib.hid ht
                clear c1 ht
                go_wp2_with fail
                go_meet
                case rel => exact ⟨by rw [HH.out], HF10⟩
              have g4 : decide (0 < n) = true := decide_eq_true (by omega)
              by_cases c2 : f < 0
              · have ht : tb = false := by rw [HTB.out, HOT.out]; unfold takeS; rw [if_neg (fun h => by have := h.2.2.1; omega)]; rfl
                have g5 : decide (0 ≤ f) = false := decide_eq_false (by omega)
                have HH := Lib.hid ht
                clear c1 c2 ht
                go_wp2_with fail
                go_meet
                case rel => exact ⟨by rw [HH.out], HF10⟩
              have g5 : decide (0 ≤ f) = true := decide_eq_true (by omega)
              by_cases c3 : (nc k : Int) ≤ f
              · have ht : tb = false := by rw [HTB.out, HOT.out]; unfold takeS; rw [if_neg (fun h => by have := h.2.2.2; omega)]; rfl
                have g6 : decide (f < (nc k : Int)) = false := decide_eq_false (by omega)
                have HH := Lib.hid ht
                clear c1 c2 c3 ht
                go_wp2_with fail
                go_meet
                case rel => exact ⟨by rw [HH.out], HF10⟩
              · obtain ⟨fi, rfl⟩ := Int.eq_ofNat_of_zero_le (show 0 ≤ f by omega)
                have hfi : fi < nc k := by omega
                have g6 : decide ((fi : Int) < (nc k : Int)) = true := decide_eq_true (by omega)
                have g7 : decide (fi < nc k) = true := decide_eq_true hfi
                have ht : decide (0 ≤ (lk l p k fi).getD (-1)) = tb := by
                  rw [HTB.out, HOT.out]
                  unfold takeS
                  rw [if_pos ⟨HOP.out, by omega, by omega, by omega⟩]
                  exact lk_isSome l p k fi
                have HFI := Lib.hid hfi
                have HH := Lib.hid ht
                clear c1 c2 c3 ht hfi
                go_wp2_with fail
                refine (wlink_any A0 d0 l p k fi HP64.out HFI.out HL32.out (by omega) _ (HR.out.below ((B8.out.trans (HF10.out.below B8.out.size (fun _ h => h.elim))).trans (Fr.below (S := No) (by repeat (first | exact Fr.refl _ _ | apply Fr.drewN | apply Fr.drew | apply Fr.alloc)) (by have := B8.out.size; have := HF10.out.size; omega) (fun _ h => h.elim))))).mono ?_
                rintro x11 w11 ⟨rfl, hb11⟩
                have F11 := Lib.hid (show Fr No w8 w11 from Fr.then_below (by repeat (first | exact HF10.out | apply Fr.drewN | apply Fr.drew | apply Fr.alloc)) hb11)
                clear hb11
                go_wp2_with fail
                go_meet
                case rel => exact ⟨by rw [← HH.out], F11⟩
          case rest =>
          obtain ⟨rfl, HF11⟩ := hcut
          obtain ⟨wr2, rfl⟩ : ∃ x : World, x = wc := ⟨_, rfl⟩
          clear b0 b1
          have XB11 := Lib.hid (HF11.out.blk XB8.out (fun h => h))
          have XT11 := Lib.hid (HF11.out.blk XT8.out (fun h => h))
          have b0 : wr2.cell? ⟨w.heap.size, 0, none⟩ = some (.int .i64 f) := cell_of XB11.out 0
          have b1 : wr2.cell? ⟨w.heap.size, 1, none⟩ = some (.int .i64 n) := cell_of XB11.out 1
          have t0 : wr2.cell? ⟨bt, 0, none⟩ = some (.int .i64 ty) := cell_of XT11.out 0
          have t1 : wr2.cell? ⟨bt, 1, none⟩ = some (.int .i64 tm) := cell_of XT11.out 1
          clear XB10 HF10
          go_upto_region 21 with (fail)
          go_cut [177] from 28 to 176 (fun v177 wd => v177 = .bool false ∧ Hid (Fr No w8 wd))
          case first =>
            as_aux_lemma =>
              rcases Bool.eq_false_or_eq_true tb with htt | htt
              rotate_left
              · subst htt
                go_quiet (fail)
                go_wp2_with fail
                go_meet
                case rel => exact ⟨rfl, Lib.hid (by repeat (first | exact HF11.out | apply Fr.drewN | apply Fr.drew | apply Fr.alloc))⟩
              · subst htt
                obtain ⟨z, hz⟩ : ∃ z, ot = some z := by
                  have h := HTB.out
                  cases ot with
                  | none => cases h
                  | some z => exact ⟨z, rfl⟩
                obtain ⟨h1, h2, h3⟩ := HT7.out z hz
                have h1 := h1.symm
                have h2 := h2.symm
                subst h1
                subst h2
                subst h3
                have hts := HOT.out
                rw [hz] at hts
                unfold takeS at hts
                by_cases hcc : Op l p k ∧ 1 ≤ n ∧ 0 ≤ f ∧ f < (nc k : Int)
                · rw [if_pos hcc] at hts
                  obtain ⟨_, hn1, hf0, hf1⟩ := hcc
                  obtain ⟨fi, rfl⟩ := Int.eq_ofNat_of_zero_le hf0
                  have hts2 : lk l p k fi = some z := hts.symm
                  have HLK := Lib.hid hts2
                  have HFI := Lib.hid (show fi < nc k by omega)
                  have h63 := H63.out
                  have gf : ((fi : Int) != (fi : Int)) = false := by simp
                  have gf2 : (fi != fi) = false := by simp
                  obtain ⟨m1, hm1⟩ : ∃ m1, n - 1 = m1 := ⟨_, rfl⟩
                  have gm : (m1 != m1) = false := by simp
                  have hw1 : wrap64 (n - 1) = m1 := by rw [← hm1]; unfold wrap64; omega
                  have hw2 : IntKind.i64.wrap m1 = m1 := by rw [IntKind.wrap_i64]; omega
                  rw [hm1] at t1 XT8 XT11
                  have gz : (z != z) = false := by simp
                  have C0 := Lib.hid b0
                  have C1 := Lib.hid b1
                  have T0 := Lib.hid t0
                  have T1 := Lib.hid t1
                  clear hts hts2 hf0 hf1 hz
                  go_region_held3 (fun W => W.cell? ⟨w.heap.size, 0, none⟩ = some (.int .i64 fi) ∧ W.cell? ⟨w.heap.size, 1, none⟩ = some (.int .i64 n) ∧ W.cell? ⟨bt, 0, none⟩ = some (.int .i64 z) ∧ W.cell? ⟨bt, 1, none⟩ = some (.int .i64 m1)) (((try go_split_ands); refine ⟨?_, ?_, ?_, ?_⟩ <;> (first | with_reducible assumption | (with_reducible exact F12.out.cell C0.out (fun h => h)) | (with_reducible exact F12.out.cell C1.out (fun h => h)) | (with_reducible exact F12.out.cell T0.out (fun h => h)) | (with_reducible exact F12.out.cell T1.out (fun h => h)) | (go_keep; done))))
                    ((go_at_call 24; refine (wlink_any A0 d0 l p k fi HP64.out HFI.out HL32.out (by omega) _ (HR.out.below ((B8.out.trans (HF11.out.below B8.out.size (fun _ h => h.elim))).trans (Fr.below (S := No) (by repeat (first | exact Fr.refl _ _ | apply Fr.drewN | apply Fr.drew | apply Fr.alloc)) (by have := B8.out.size; have := HF11.out.size; omega) (fun _ h => h.elim))))).mono ?_; rintro e w12 ⟨rfl, hb12⟩; rw [HLK.out]; have F12 := Lib.hid (show Fr No wr2 w12 from Fr.then_below (by repeat (first | exact Fr.refl _ _ | apply Fr.drewN | apply Fr.drew | apply Fr.alloc)) hb12); clear hb12; dsimp only [Option.getD_some]))
                  all_goals
                    go_wp2_with fail
                    go_meet
                    case rel => exact ⟨rfl, Lib.hid (HF11.out.trans (show Fr No wr2 _ from (by repeat (first | exact F12.out | apply Fr.drewN | apply Fr.drew | apply Fr.alloc))) (fun i (h : No i) => h.elim))⟩
                · rw [if_neg hcc] at hts; cases hts
          case rest =>
          obtain ⟨rfl, HF12⟩ := hcut
          obtain ⟨ws, rfl⟩ : ∃ x : World, x = wc := ⟨_, rfl⟩
          clear b0 b1 t0 t1 XB11 XT11 HT7 HTB HOT HF11
          have XB12 := Lib.hid (HF12.out.blk XB8.out (fun h => h))
          have b0 : ws.cell? ⟨w.heap.size, 0, none⟩ = some (.int .i64 f) := cell_of XB12.out 0
          have b1 : ws.cell? ⟨w.heap.size, 1, none⟩ = some (.int .i64 n) := cell_of XB12.out 1
          have M12 := Lib.hid (M8.out.no HF12.out)
          have B12 := Lib.hid (B8.out.trans (HF12.out.below B8.out.size (fun _ h => h.elim)))
          clear XT8 HOA HOL HBND HOB
          go_wp2_with fail
          refine (give_uni w.heap.size g v l p k f n i _ (M12.out.no (by repeat (first | exact Fr.refl _ _ | apply Fr.drewN | apply Fr.drew | apply Fr.alloc)))).mono ?_
          rintro x13 w13 ⟨c0, c1, bb, rfl, hbb, hm13, hf13, hgy, hgn⟩
          have HBB := Lib.hid hbb
          have HGY := Lib.hid hgy
          have HGN := Lib.hid hgn
          have M13 := Lib.hid hm13
          have FG := Lib.hid (show Fr (Foot g v) ws w13 from Fr.trans (Fr.mono (S := No) (by repeat (first | exact Fr.refl _ _ | apply Fr.drewN | apply Fr.drew | apply Fr.alloc)) (fun _ h => h.elim)) hf13 (fun i hi => .inl hi))
          have XB13 := Lib.hid (FG.out.blk XB12.out NF.out)
          have B13 := Lib.hid (B12.out.trans (M12.out.below FG.out B12.out.size))
          clear hbb hgy hgn hm13 hf13 b0 b1 XB12 M12 FG
          go_upto_region 24 with (fail)
          have XG14 := Lib.hid (heap_alloc_new w13 (.cells #[.int .i64 c0, .int .i64 c1] 29))
          have F14 := Lib.hid (Fr.alloc (Fr.refl No w13) (.cells #[.int .i64 c0, .int .i64 c1] 29))
          generalize w13.alloc (.cells #[.int .i64 c0, .int .i64 c1] 29) = w14 at XG14 F14 ⊢
          obtain ⟨bg, hbg⟩ : ∃ bg, bg = w13.heap.size := ⟨_, rfl⟩
          rw [← hbg] at XG14 ⊢
          have M14 := Lib.hid (M13.out.no F14.out)
          have XB14 := Lib.hid (F14.out.blk XB13.out (fun h => h))
          have B14 := Lib.hid (B13.out.trans (F14.out.below B13.out.size (fun _ h => h.elim)))
          clear hbg M13 XB13 B13 F14
          have b0 : w14.cell? ⟨w.heap.size, 0, none⟩ = some (.int .i64 f) := cell_of XB14.out 0
          have b1 : w14.cell? ⟨w.heap.size, 1, none⟩ = some (.int .i64 n) := cell_of XB14.out 1
          have e0 : w14.cell? ⟨bg, 0, none⟩ = some (.int .i64 c0) := cell_of XG14.out 0
          have e1 : w14.cell? ⟨bg, 1, none⟩ = some (.int .i64 c1) := cell_of XG14.out 1
          by_cases hok : GiveOk l p k f n i
          · have hb1 : bb = true := by rw [HBB.out, decide_eq_true hok]
            obtain ⟨h1, h2⟩ := HGY.out hok
            subst hb1
            subst h1
            subst h2
            have hm := M14.out
            unfold giveL at hm
            rw [if_pos hok] at hm
            obtain ⟨_, ⟨k1, k2⟩, ⟨k3, k4⟩, k5, k6⟩ := id hok
            obtain ⟨ii, rfl⟩ := Int.eq_ofNat_of_zero_le k1
            have hii : ii < nc k := by omega
            rw [show ((p : Int)).toNat = p by omega, show ((ii : Int)).toNat = ii by omega] at hm
            have hin := cell_in hii
            obtain ⟨u, hu⟩ : ∃ u, u = ii * sz k := ⟨_, rfl⟩
            rw [← hu] at hm hin
            have eu : (ii : Int) * (sz k : Int) = (u : Int) := by rw [hu]; simp
            obtain ⟨t, ht⟩ : ∃ t, t = 32 * p + u := ⟨_, rfl⟩
            rw [← ht] at hm
            have et : 32 * (p : Int) + (u : Int) = (t : Int) := by omega
            have hlt : t < l.length := by have := HL32.out; omega
            have HMM := Lib.hid hm
            have HAT := Lib.hid (show (l.set t (-1 - f))[t]? = some (-1 - f) by rw [List.getElem?_set, if_pos rfl, if_pos hlt])
            have n16 := nc_le k
            have j1 : decide ((ii : Int) < 0) = false := decide_eq_false (by omega)
            have j2 : decide ((nc k : Int) ≤ (ii : Int)) = false := decide_eq_false (by omega)
            have j2b : decide (nc k ≤ ii) = false := decide_eq_false (by omega)
            have j3 : decide (n < 0) = false := decide_eq_false (by omega)
            have j4 : decide ((nc k : Int) ≤ n) = false := decide_eq_false (by omega)
            have j5 : decide (f < 0) = false := decide_eq_false (by omega)
            have j6 : decide ((nc k : Int) < f) = false := decide_eq_false (by omega)
            have i7 : (u : Int) ≤ 32 := by omega
            have i8 : (0 : Int) ≤ (u : Int) := Int.natCast_nonneg _
            have i9 : n ≤ 16 := by omega
            have i10 : f ≤ 16 := by omega
            have i11 : (sz k : Int) ≤ 32 := by omega
            have i12 : (ii : Int) ≤ 16 := by omega
            clear hm hin hu ht hlt hii hok n16 k1 k2 k4 k6
            go_wp2_with fail
            refine (load_yes w.heap.size g v _ t (-1 - f) _ (HMM.out.no (by repeat (first | exact Fr.refl _ _ | apply Fr.drewN | apply Fr.drew | apply Fr.alloc))) HAT.out).mono ?_
            rintro x15 w15 ⟨rfl, q15, rfl⟩
            have gii : ((ii : Int) == (ii : Int)) = true := by simp
            go_wp2_with fail
            go_ret
            exact ⟨rfl, B14.out.trans ((Fr.drewN (Fr.refl No w14) q15).below B14.out.size (fun _ h => h.elim))⟩
          · have hb1 : bb = false := by rw [HBB.out, decide_eq_false hok]
            obtain ⟨h1, h2⟩ := HGN.out hok
            subst hb1
            subst h1
            subst h2
            have hm := M14.out
            unfold giveL at hm
            rw [if_neg hok] at hm
            have HMM := Lib.hid hm
            clear hm
            go_cut [215] from 28 to 214 (fun v215 wd => v215 = .bool true ∧ wd = w14)
            case first =>
              as_aux_lemma =>
                by_cases c1 : i < 0
                · clear hok
                  go_wp2_with fail
                  go_meet
                  case rel => exact ⟨rfl, rfl⟩
                have j1 : decide (i < 0) = false := decide_eq_false c1
                by_cases c2 : (nc k : Int) ≤ i
                · clear hok c1
                  go_wp2_with fail
                  go_meet
                  case rel => exact ⟨rfl, rfl⟩
                have j2 : decide ((nc k : Int) ≤ i) = false := decide_eq_false c2
                by_cases c3 : n < 0
                · clear hok c1 c2
                  go_wp2_with fail
                  go_meet
                  case rel => exact ⟨rfl, rfl⟩
                have j3 : decide (n < 0) = false := decide_eq_false c3
                by_cases c4 : (nc k : Int) ≤ n
                · clear hok c1 c2 c3
                  go_wp2_with fail
                  go_meet
                  case rel => exact ⟨rfl, rfl⟩
                have j4 : decide ((nc k : Int) ≤ n) = false := decide_eq_false c4
                by_cases c5 : f < 0
                · clear hok c1 c2 c3 c4
                  go_wp2_with fail
                  go_meet
                  case rel => exact ⟨rfl, rfl⟩
                have j5 : decide (f < 0) = false := decide_eq_false c5
                have c6 : (nc k : Int) < f := by
                  refine Int.lt_of_not_ge (fun h => hok ⟨HOP.out, ⟨by omega, by omega⟩, ⟨by omega, by omega⟩, by omega, h⟩)
                clear hok c1 c2 c3 c4 c5
                go_wp2_with fail
                go_meet
                case rel => exact ⟨rfl, rfl⟩
            case rest =>
            obtain ⟨rfl, hwd⟩ := hcut
            subst hwd
            clear hok
            go_wp2_with fail
            refine (Mem.all_any w.heap.size g v l _ (HMM.out.no (by repeat (first | exact Fr.refl _ _ | apply Fr.drewN | apply Fr.drew | apply Fr.alloc)))).mono ?_
            rintro x15 w15 ⟨v15, rfl, ho15, hb15⟩
            obtain ⟨A15, d15, rfl, _⟩ := ho15.slice
            have F15 := Lib.hid (show Fr No wc w15 from Fr.then_below (by repeat (first | exact Fr.refl _ _ | apply Fr.drewN | apply Fr.drew | apply Fr.alloc)) hb15)
            have R15 := Lib.hid ho15.rd
            have B15 := Lib.hid (B14.out.trans (F15.out.below B14.out.size (fun _ h => h.elim)))
            clear ho15 hb15
            go_wp2_with fail
            refine (Words.same_any A15 A0 l.length l.length d15 d0 l rfl rfl _ (R15.out.fr (S := No) (by repeat (first | exact Fr.refl _ _ | apply Fr.drewN | apply Fr.drew | apply Fr.alloc)) (fun _ _ h => h)) (HR.out.below (B15.out.trans (Fr.below (S := No) (by repeat (first | exact Fr.refl _ _ | apply Fr.drewN | apply Fr.drew | apply Fr.alloc)) B15.out.size (fun _ h => h.elim)))) (by omega)).mono ?_
            rintro x16 w16 ⟨rfl, q16, rfl⟩
            go_wp2_with fail
            go_ret
            exact ⟨rfl, B15.out.trans (Fr.below (S := No) (by repeat (first | exact Fr.refl _ _ | apply Fr.drewN | apply Fr.drew | apply Fr.alloc)) B15.out.size (fun _ h => h.elim))⟩

end Go.Proofs.Ytbndmcblkfaheaa.Chain
