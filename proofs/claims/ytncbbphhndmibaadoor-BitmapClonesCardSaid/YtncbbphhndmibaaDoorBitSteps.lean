/- Proved: the law BitmapSteps of package scutagelaw05 over any arguments. -/
import Derived.Test.YtncbbphhndmibaaDoorBitRun
namespace Go.Proofs.YtncbbphhndmibaaDoor.BitSteps
open Go.RowKit Go.Proofs.YtncbbphhndmibaaDoor.H Go.Proofs.YtncbbphhndmibaaDoor.Nums Go.Proofs.YtncbbphhndmibaaDoor.BitPure Go.Proofs.YtncbbphhndmibaaDoor.Bitmap Go.Proofs.YtncbbphhndmibaaDoor.Rising Go.Proofs.YtncbbphhndmibaaDoor.BitLaw Go.Proofs.YtncbbphhndmibaaDoor.BitStep Go.Proofs.YtncbbphhndmibaaDoor.BitRun
set_option linter.unusedVariables false
attribute [local irreducible] elems from_ nxt elemsN

def atK (es : List Int) (k : Nat) : Int := (es[k]?).getD (-1)
theorem nextL_split (pre post : List Int) (i : Int) (h1 : ∀ x ∈ pre, x < i) (h2 : ∀ x ∈ post, i ≤ x) : nextL (pre ++ post) i = (post.head?).getD (-1) := by
  unfold nextL
  rw [List.find?_append, List.find?_eq_none.2 (fun x hx => by have := h1 x hx; simp; omega), Option.none_or]
  cases post with
  | nil => rfl
  | cons y r => rw [List.find?_cons_of_pos (by simpa using h2 y (by simp))]; rfl
theorem next_first {w : World} {B g n : Nat} {ws : List Nat} (hs : S w B g n ws) : nextI n ws (-1) = atK (elems ws) 0 := by
  have h := nextL_split [] (elems ws) (-1) (fun x hx => by cases hx) (fun x hx => by have := (mem_elems ws x).1 hx; omega)
  rw [List.nil_append, next_law hs] at h
  rw [h]
  unfold atK
  cases elems ws <;> rfl
theorem next_then {w : World} {B g n : Nat} {ws : List Nat} (hs : S w B g n ws) (k : Nat) (y : Int) (hk : (elems ws)[k]? = some y) : nextI n ws (y + 1) = atK (elems ws) (k + 1) := by
  have hso := elems_sorted ws
  rw [← next_law hs]
  generalize elems ws = es at hk hso ⊢
  obtain ⟨hlt, rfl⟩ := List.getElem?_eq_some_iff.1 hk
  have e : es = es.take (k + 1) ++ es.drop (k + 1) := (List.take_append_drop _ _).symm
  have ht : es.take (k + 1) = es.take k ++ [es[k]] := by rw [List.take_add_one, List.getElem?_eq_getElem hlt]; rfl
  have hp := hso
  rw [e, List.pairwise_append] at hp
  have hq := hp.1
  rw [ht, List.pairwise_append] at hq
  have h := nextL_split (es.take (k + 1)) (es.drop (k + 1)) (es[k] + 1) (fun x hx => by
    rw [ht, List.mem_append, List.mem_singleton] at hx
    rcases hx with hx | rfl
    · have := hq.2.2 x hx es[k] (by simp); omega
    · omega) (fun x hx => by
    have := hp.2.2 es[k] (by rw [ht]; exact List.mem_append_right _ (List.mem_singleton.2 rfl)) x hx; omega)
  rw [← e] at h
  rw [h]
  unfold atK
  rw [List.head?_drop]
theorem at_end (es : List Int) (k : Nat) (h : es.length ≤ k) : atK es k = -1 := by unfold atK; rw [List.getElem?_eq_none h]; rfl
theorem at_in (es : List Int) (k : Nat) (y : Int) (h : es[k]? = some y) : atK es k = y := by unfold atK; rw [h]; rfl
/-- what was taken in, and the set -/
structure Took (w : World) (B g n : Nat) (ws : List Nat) (v : Value) (acc : List Int) : Prop where
  set : S w B g n ws
  own : Own w B v acc
  tab : Tab w
  mem : ∀ x, x ∈ acc ↔ x ∈ elems ws
theorem Took.fr {w w' : World} {B g n : Nat} {ws : List Nat} {v : Value} {acc : List Int} (h : Took w B g n ws v acc) (hf : Fr No w w') : Took w' B g n ws v acc := ⟨h.set.no hf, h.own.fr hf (fun _ _ h => h), h.tab.no hf, h.mem⟩
theorem took_rising {w : World} {B g n : Nat} {ws : List Nat} {v : Value} {acc : List Int} (h : Took w B g n ws v acc) : risingL acc = elems ws :=
  sorted_ext _ _ (rising_sorted _) (elems_sorted _) (fun x => by rw [mem_rising]; exact h.mem x)
theorem mem_with {w : World} {B g n : Nat} {ws : List Nat} (hs : S w B g n ws) (i : Int) (h : addOk n ws i = true) (x : Int) : x ∈ elems (addW n ws i) ↔ x ∈ elems ws ∨ x = i := by
  rw [← with_law hs i h, mem_rising, List.mem_append, List.mem_singleton]


set_option maxRecDepth 100000 in
set_option maxHeartbeats 25600000 in
theorem steps_less (n : Int) (A : Option Addr) (q c : Nat) (l : List Int) (hq : q = l.length) (h80 : q ≤ 80) (w : World) (ht : Tab w) (hr : Rd w (.slice A q c) q 1 (ints l)) (hc : q ≤ c) :
    Calls Tryd.prog 3 #[.int .i64 n, .slice A q c] w (Same w (.bool true)) := by
  obtain ⟨ms, hms⟩ : ∃ ms, ms = l := ⟨_, rfl⟩
  have hml : ms.length = q := by rw [hms, hq]
  have hrm : Rd w (.slice A q c) q 1 (ints ms) := by rw [hms]; exact hr
  clear hms
  have HT := Lib.hid ht
  have HML : Hid (ms.length = q) := Lib.hid hml
  have HRM := Lib.hid hrm
  have HB0 := Lib.hid (tab_pos ht)
  clear hr hq ht hml hrm
  go_enter Tryd.func3, Tryd.ntmps3
  go_wp2_with fail
  with_reducible refine (alive_any _ HT.out).mono ?_
  rintro x1 w1 ⟨rfl, hb1⟩
  have B1 := Lib.hid hb1
  clear hb1
  go_wp2_with fail
  with_reducible refine (new_any n _).mono ?_
  rintro x3 w3 ⟨g, rfl, hs3, hb3⟩
  have S3 := Lib.hid (hs3.lower B1.out.size)
  have B3 := Lib.hid (B1.out.trans (hb3.mono B1.out.size))
  clear hs3 hb3
  obtain ⟨N, hN⟩ : ∃ N, N = topN n := ⟨_, rfl⟩
  rw [← hN] at S3
  clear hN
  go_wp2_with fail
  go_loopw [6, 7] (fun o v wr => ∃ k : Nat, k ≤ q ∧ v = .int .i64 k ∧ Hid (∃ ws acc, Took wr w.heap.size g N ws o acc ∧ acc.length ≤ k ∧ Below w.heap.size w wr)) (fun _ v _ => q - (intOf v).toNat)
  case atStart => exact ⟨0, Nat.zero_le _, rfl, Lib.hid ⟨w0, [], ⟨S3.out, Own.nil _ _, HT.out.low B3.out, fun x => by rw [w0_elems]⟩, Nat.le_refl _, B3.out⟩⟩
  case round =>
    obtain ⟨k, hk, rfl, HQ⟩ := hrel
    rename_i o
    obtain ⟨ws, acc, hT, hal, hB⟩ := HQ.out
    obtain ⟨A5, c5, rfl, _⟩ := hT.own.slice
    have T1 := Lib.hid hT
    have BR := Lib.hid hB
    have HAL := Lib.hid hal
    have i1 : (0 : Int) ≤ (k : Int) := Int.natCast_nonneg _
    obtain ⟨m5, hm5⟩ : ∃ m5, m5 = acc.length := ⟨_, rfl⟩
    rw [← hm5] at T1 ⊢
    have HM5 := Lib.hid hm5
    clear HQ hT hB hal hm5
    by_cases hlt : k < q
    · have hlm : k < ms.length := by rw [HML.out]; exact hlt
      obtain ⟨ad, rfl, x0a⟩ := rd_at (HRM.out.below BR.out) k hlm
      obtain ⟨y, x0⟩ : ∃ y, wr.cell? (ad.add k) = some (.int .i64 y) := ⟨_, x0a⟩
      have X0 := Lib.hid x0
      have hadw : (ad.add k).block < w.heap.size := by
        obtain ⟨ad', he, xw⟩ := rd_at HRM.out k hlm
        injection he with he
        subst he
        exact World.block_lt_of_cell? w _ xw
      have HADW := Lib.hid hadw
      have HLT := Lib.hid hlt
      have i2 : (k : Int) < (q : Int) := by omega
      clear x0a hlm hlt hadw
      go_wp2_with fail
      with_reducible refine (add_any w.heap.size g N ws y _ T1.out.set).mono ?_
      rintro x2 w2 ⟨rfl, hs2, hf2⟩
      have S2 := Lib.hid hs2
      have F2 := Lib.hid hf2
      have BR2 := Lib.hid (BR.out.trans (T1.out.set.below hf2 BR.out.size))
      have O2 : Hid (Own w2 w.heap.size (.slice A5 m5 c5) acc) := Lib.hid (T1.out.own.fr hf2 (fun j hj h => by
        have h3 := own_ne_blk T1.out.own T1.out.set.blk (by decide)
        unfold Foot at h
        exact h3 (by rw [hj, h])))
      have T2 := Lib.hid (show Tab w2 from HT.out.low BR2.out)
      have x2 : w2.cell? (ad.add k) = some (.int .i64 y) := F2.out.cell X0.out (fun h => by
        have h1 := HADW.out; have h2 := T1.out.set.base; unfold Foot at h; omega)
      clear hs2 hf2
      cases hadd : addOk N ws y with
      | true =>
        have HMW := Lib.hid (fun x => mem_with T1.out.set y hadd x)
        clear x0
        go_wp2_with (at_builtin; refine app_one (l := acc) (y := y) rfl _ _ rfl rfl (O2.out.fr (Fr.alloc (Fr.refl No _) _) (fun _ _ h => h)) rfl rfl (heap_alloc_new _ _) (by decide) (by have := HAL.out; have := HLT.out; omega) (by have := BR2.out.size; simp; omega) ?_; intro v6 w6 h1 h2 h3; have O6 := Lib.hid h1; have G6 := Lib.hid h2; clear h1 h2 h3)
        go_roundw
        case rel =>
          have F6 : Fr No w w6 := Fr.grown (Fr.alloc (Fr.of_below BR2.out No) _) G6.out (fun j hj => .inr (O2.out.lt j hj).1)
          have hblk : w6.heap[g]? = some (.cells (arr true N (addW N ws y)) 41 (0, 0)) := by
            have h1 := (Fr.grown (S := fun j => (Value.slice A5 m5 c5).ownBlock = some j) ((Fr.refl _ w2).alloc _) G6.out (fun j hj => .inl hj)).blk S2.out.blk (fun hj => own_ne_blk O2.out S2.out.blk (by decide) hj)
            exact h1
          refine ⟨k + 1, HLT.out, by go_num, Lib.hid ⟨addW N ws y, acc ++ [y], ⟨⟨hblk, S2.out.base, S2.out.ok, S2.out.top, S2.out.low⟩, O6.out, HT.out.no F6, fun x => ?_⟩, by rw [List.length_append]; have := HAL.out; simp; omega, F6.below (Nat.le_refl _) (fun _ h => h.elim)⟩⟩
          rw [HMW.out x, List.mem_append, List.mem_singleton, T1.out.mem x]
        case measure => have := HLT.out; simp [intOf]; omega
      | false =>
        have HE := Lib.hid (add_none hadd)
        clear x0
        go_wp2_with fail
        go_roundw
        case rel =>
          refine ⟨k + 1, HLT.out, by go_num, Lib.hid ⟨ws, acc, ⟨by rw [← HE.out]; exact S2.out, O2.out, T2.out, T1.out.mem⟩, by have := HAL.out; omega, BR2.out⟩⟩
        case measure => have := HLT.out; simp [intOf]; omega
    · obtain rfl : k = q := by omega
      clear hlt
      have HRX := Lib.hid (took_rising T1.out)
      have HRA : Hid (∀ W, Fr No wr W → Rd W (.slice A5 m5 c5) m5 1 (ints acc)) := Lib.hid (fun W hW => by have h9 := (T1.out.own.fr hW (fun _ _ h => h)).rd; rw [← HM5.out] at h9; exact h9)
      go_wp2_with fail
      with_reducible refine (rising_any A5 m5 c5 acc HM5.out _ (HRA.out _ (by repeat (first | exact Fr.refl _ _ | apply Fr.drewN | apply Fr.drew))) (by have := HAL.out; omega)).mono ?_
      rintro x7 w7 ⟨v7, rfl, ho7, hb7⟩
      rw [HRX.out] at ho7
      have F7 := Lib.hid (show Fr No wr w7 from Fr.of_below hb7 No)
      have S7 := Lib.hid (T1.out.set.no F7.out)
      have B7 := Lib.hid (BR.out.trans (F7.out.below BR.out.size (fun _ h => h.elim)))
      have HCO := Lib.hid (fun W (hW : Fr No w7 W) => count_any w.heap.size g N ws W (S7.out.no hW))
      have HNX := Lib.hid (fun (j : Int) W (hW : Fr No w7 W) => next_any w.heap.size g N ws j W (S7.out.no hW) ((HT.out.low B7.out).no hW))
      have HN0 := Lib.hid (next_first S7.out)
      have HN1 := Lib.hid (fun (j : Nat) (y : Int) hj => next_then S7.out j y hj)
      have HEL := Lib.hid (elems_len ws)
      have HEM := Lib.hid (fun (x : Int) (hx : x ∈ elems ws) => (mem_elems ws x).1 hx)
      obtain ⟨es, hes⟩ : ∃ es, es = elems ws := ⟨_, rfl⟩
      rw [← hes] at ho7 HCO HN0 HN1 HEL HEM
      obtain ⟨A7, c7, rfl, _⟩ := ho7.slice
      obtain ⟨me, hme⟩ : ∃ me, me = es.length := ⟨_, rfl⟩
      have HRE : Hid (∀ W, Fr No w7 W → Rd W (.slice A7 me c7) me 1 (ints es)) := Lib.hid (fun W hW => by have h9 := (ho7.fr hW (fun _ _ h => h)).rd; rw [← hme] at h9; exact h9)
      rw [← hme] at HCO HEL ⊢
      have HME := Lib.hid hme
      have HML2 : Hid (me ≤ 2048) := Lib.hid HEL.out
      clear ho7 hb7 hes hme
      go_wp2_with fail
      with_reducible refine (HNX.out (-1) _ (by repeat (first | exact Fr.refl _ _ | apply Fr.drewN | apply Fr.drew))).mono ?_
      rintro x8 w8 ⟨rfl, n8, hw8⟩
      rw [HN0.out]
      have F8 := Lib.hid (show Fr No w7 w8 from drewN_fr (by repeat (first | exact Fr.refl _ _ | apply Fr.drewN | apply Fr.drew)) hw8)
      clear hw8
      go_wp2_with fail
      go_loopw [8, 9] (fun a v wq => ∃ j : Nat, j ≤ me ∧ v = .int .i64 j ∧ a = .int .i64 (atK es j) ∧ Hid (Fr No w7 wq)) (fun _ v _ => me - (intOf v).toNat)
      case atStart => exact ⟨0, Nat.zero_le _, rfl, rfl, F8⟩
      case round =>
        rename_i wq
        obtain ⟨j, hj, rfl, rfl, FQ⟩ := hrel
        have j1 : (0 : Int) ≤ (j : Int) := Int.natCast_nonneg _
        by_cases hlt : j < me
        · have hlm : j < es.length := by rw [← HME.out]; exact hlt
          obtain ⟨ad, rfl, x0a⟩ := rd_at (HRE.out _ FQ.out) j hlm
          have hy := List.getElem?_eq_getElem hlm
          have hym := HEM.out _ (List.getElem_mem hlm)
          generalize es[j] = y at x0a hy hym
          have hat := at_in es j y hy
          have HN2 := Lib.hid (HN1.out j y hy)
          have y1 : (0 : Int) ≤ y := hym.1
          have y2 : y < 2048 := hym.2.1
          have HLT := Lib.hid hlt
          have i2 : (j : Int) < (me : Int) := by omega
          have i3 : (j : Int) < 2048 := by have := HML2.out; omega
          have gy : (y == y) = true := by simp
          rw [hat]
          clear hlm hy hym hlt hat
          go_wp2_with fail
          with_reducible refine (HNX.out (y + 1) _ (by repeat (first | exact FQ.out | apply Fr.drewN | apply Fr.drew))).mono ?_
          rintro x9 w9 ⟨rfl, n9, hw9⟩
          rw [HN2.out]
          have F9 := Lib.hid (show Fr No w7 w9 from drewN_fr (by repeat (first | exact FQ.out | apply Fr.drewN | apply Fr.drew)) hw9)
          clear hw9
          go_wp2_with fail
          go_roundw
          case rel => exact ⟨j + 1, HLT.out, by go_num, rfl, F9⟩
          case measure => have := HLT.out; simp [intOf]; omega
        · obtain rfl : j = me := by omega
          have hat := at_end es j (by rw [← HME.out]; exact Nat.le_refl _)
          rw [hat]
          have gm : ((j : Int) == (j : Int)) = true := by simp
          clear hlt hat
          go_wp2_with fail
          with_reducible refine (HCO.out _ (by repeat (first | exact FQ.out | apply Fr.drewN | apply Fr.drew))).mono ?_
          rintro x9 w9 ⟨rfl, n9, hw9⟩
          have F9 := Lib.hid (show Fr No w7 w9 from drewN_fr (by repeat (first | exact FQ.out | apply Fr.drewN | apply Fr.drew)) hw9)
          clear hw9
          go_wp2_with fail
          go_ret
          exact ⟨rfl, B7.out.trans (F9.out.below B7.out.size (fun _ h => h.elim))⟩

set_option maxRecDepth 100000 in
set_option maxHeartbeats 25600000 in
theorem steps_more (n : Int) (A : Option Addr) (q c : Nat) (l : List Int) (hq : q = l.length) (h80 : 80 < q) (w : World) (ht : Tab w) (hr : Rd w (.slice A q c) q 1 (ints l)) (hc : q ≤ c) :
    Calls Tryd.prog 3 #[.int .i64 n, .slice A q c] w (Same w (.bool true)) := by
  obtain ⟨ms, hms⟩ : ∃ ms, ms = l.take 80 := ⟨_, rfl⟩
  have hml : ms.length = 80 := by rw [hms, List.length_take]; omega
  have hrm : Rd w (.slice A 80 c) 80 1 (ints ms) := by
    have h := hr.take (m := 80) (by omega)
    rw [Nat.mul_one, ints_take] at h
    rw [hms]; exact h
  clear hms
  have HT := Lib.hid ht
  have HML : Hid (ms.length = 80) := Lib.hid hml
  have h80' : 80 ≤ c := by omega
  have HRM := Lib.hid hrm
  have HB0 := Lib.hid (tab_pos ht)
  clear hr hq ht hml hrm
  go_enter Tryd.func3, Tryd.ntmps3
  go_wp2_with fail
  with_reducible refine (alive_any _ HT.out).mono ?_
  rintro x1 w1 ⟨rfl, hb1⟩
  have B1 := Lib.hid hb1
  clear hb1
  go_wp2_with fail
  with_reducible refine (new_any n _).mono ?_
  rintro x3 w3 ⟨g, rfl, hs3, hb3⟩
  have S3 := Lib.hid (hs3.lower B1.out.size)
  have B3 := Lib.hid (B1.out.trans (hb3.mono B1.out.size))
  clear hs3 hb3
  obtain ⟨N, hN⟩ : ∃ N, N = topN n := ⟨_, rfl⟩
  rw [← hN] at S3
  clear hN
  go_wp2_with fail
  go_loopw [6, 7] (fun o v wr => ∃ k : Nat, k ≤ 80 ∧ v = .int .i64 k ∧ Hid (∃ ws acc, Took wr w.heap.size g N ws o acc ∧ acc.length ≤ k ∧ Below w.heap.size w wr)) (fun _ v _ => 80 - (intOf v).toNat)
  case atStart => exact ⟨0, Nat.zero_le _, rfl, Lib.hid ⟨w0, [], ⟨S3.out, Own.nil _ _, HT.out.low B3.out, fun x => by rw [w0_elems]⟩, Nat.le_refl _, B3.out⟩⟩
  case round =>
    obtain ⟨k, hk, rfl, HQ⟩ := hrel
    rename_i o
    obtain ⟨ws, acc, hT, hal, hB⟩ := HQ.out
    obtain ⟨A5, c5, rfl, _⟩ := hT.own.slice
    have T1 := Lib.hid hT
    have BR := Lib.hid hB
    have HAL := Lib.hid hal
    have i1 : (0 : Int) ≤ (k : Int) := Int.natCast_nonneg _
    obtain ⟨m5, hm5⟩ : ∃ m5, m5 = acc.length := ⟨_, rfl⟩
    rw [← hm5] at T1 ⊢
    have HM5 := Lib.hid hm5
    clear HQ hT hB hal hm5
    by_cases hlt : k < 80
    · have hlm : k < ms.length := by rw [HML.out]; exact hlt
      obtain ⟨ad, rfl, x0a⟩ := rd_at (HRM.out.below BR.out) k hlm
      obtain ⟨y, x0⟩ : ∃ y, wr.cell? (ad.add k) = some (.int .i64 y) := ⟨_, x0a⟩
      have X0 := Lib.hid x0
      have hadw : (ad.add k).block < w.heap.size := by
        obtain ⟨ad', he, xw⟩ := rd_at HRM.out k hlm
        injection he with he
        subst he
        exact World.block_lt_of_cell? w _ xw
      have HADW := Lib.hid hadw
      have HLT := Lib.hid hlt
      have i2 : (k : Int) < (80 : Int) := by omega
      clear x0a hlm hlt hadw
      go_wp2_with fail
      with_reducible refine (add_any w.heap.size g N ws y _ T1.out.set).mono ?_
      rintro x2 w2 ⟨rfl, hs2, hf2⟩
      have S2 := Lib.hid hs2
      have F2 := Lib.hid hf2
      have BR2 := Lib.hid (BR.out.trans (T1.out.set.below hf2 BR.out.size))
      have O2 : Hid (Own w2 w.heap.size (.slice A5 m5 c5) acc) := Lib.hid (T1.out.own.fr hf2 (fun j hj h => by
        have h3 := own_ne_blk T1.out.own T1.out.set.blk (by decide)
        unfold Foot at h
        exact h3 (by rw [hj, h])))
      have T2 := Lib.hid (show Tab w2 from HT.out.low BR2.out)
      have x2 : w2.cell? (ad.add k) = some (.int .i64 y) := F2.out.cell X0.out (fun h => by
        have h1 := HADW.out; have h2 := T1.out.set.base; unfold Foot at h; omega)
      clear hs2 hf2
      cases hadd : addOk N ws y with
      | true =>
        have HMW := Lib.hid (fun x => mem_with T1.out.set y hadd x)
        clear x0
        go_wp2_with (at_builtin; refine app_one (l := acc) (y := y) rfl _ _ rfl rfl (O2.out.fr (Fr.alloc (Fr.refl No _) _) (fun _ _ h => h)) rfl rfl (heap_alloc_new _ _) (by decide) (by have := HAL.out; have := HLT.out; omega) (by have := BR2.out.size; simp; omega) ?_; intro v6 w6 h1 h2 h3; have O6 := Lib.hid h1; have G6 := Lib.hid h2; clear h1 h2 h3)
        go_roundw
        case rel =>
          have F6 : Fr No w w6 := Fr.grown (Fr.alloc (Fr.of_below BR2.out No) _) G6.out (fun j hj => .inr (O2.out.lt j hj).1)
          have hblk : w6.heap[g]? = some (.cells (arr true N (addW N ws y)) 41 (0, 0)) := by
            have h1 := (Fr.grown (S := fun j => (Value.slice A5 m5 c5).ownBlock = some j) ((Fr.refl _ w2).alloc _) G6.out (fun j hj => .inl hj)).blk S2.out.blk (fun hj => own_ne_blk O2.out S2.out.blk (by decide) hj)
            exact h1
          refine ⟨k + 1, HLT.out, by go_num, Lib.hid ⟨addW N ws y, acc ++ [y], ⟨⟨hblk, S2.out.base, S2.out.ok, S2.out.top, S2.out.low⟩, O6.out, HT.out.no F6, fun x => ?_⟩, by rw [List.length_append]; have := HAL.out; simp; omega, F6.below (Nat.le_refl _) (fun _ h => h.elim)⟩⟩
          rw [HMW.out x, List.mem_append, List.mem_singleton, T1.out.mem x]
        case measure => have := HLT.out; simp [intOf]; omega
      | false =>
        have HE := Lib.hid (add_none hadd)
        clear x0
        go_wp2_with fail
        go_roundw
        case rel =>
          refine ⟨k + 1, HLT.out, by go_num, Lib.hid ⟨ws, acc, ⟨by rw [← HE.out]; exact S2.out, O2.out, T2.out, T1.out.mem⟩, by have := HAL.out; omega, BR2.out⟩⟩
        case measure => have := HLT.out; simp [intOf]; omega
    · obtain rfl : k = 80 := by omega
      clear hlt
      have HRX := Lib.hid (took_rising T1.out)
      have HRA : Hid (∀ W, Fr No wr W → Rd W (.slice A5 m5 c5) m5 1 (ints acc)) := Lib.hid (fun W hW => by have h9 := (T1.out.own.fr hW (fun _ _ h => h)).rd; rw [← HM5.out] at h9; exact h9)
      go_wp2_with fail
      with_reducible refine (rising_any A5 m5 c5 acc HM5.out _ (HRA.out _ (by repeat (first | exact Fr.refl _ _ | apply Fr.drewN | apply Fr.drew))) (by have := HAL.out; omega)).mono ?_
      rintro x7 w7 ⟨v7, rfl, ho7, hb7⟩
      rw [HRX.out] at ho7
      have F7 := Lib.hid (show Fr No wr w7 from Fr.of_below hb7 No)
      have S7 := Lib.hid (T1.out.set.no F7.out)
      have B7 := Lib.hid (BR.out.trans (F7.out.below BR.out.size (fun _ h => h.elim)))
      have HCO := Lib.hid (fun W (hW : Fr No w7 W) => count_any w.heap.size g N ws W (S7.out.no hW))
      have HNX := Lib.hid (fun (j : Int) W (hW : Fr No w7 W) => next_any w.heap.size g N ws j W (S7.out.no hW) ((HT.out.low B7.out).no hW))
      have HN0 := Lib.hid (next_first S7.out)
      have HN1 := Lib.hid (fun (j : Nat) (y : Int) hj => next_then S7.out j y hj)
      have HEL := Lib.hid (elems_len ws)
      have HEM := Lib.hid (fun (x : Int) (hx : x ∈ elems ws) => (mem_elems ws x).1 hx)
      obtain ⟨es, hes⟩ : ∃ es, es = elems ws := ⟨_, rfl⟩
      rw [← hes] at ho7 HCO HN0 HN1 HEL HEM
      obtain ⟨A7, c7, rfl, _⟩ := ho7.slice
      obtain ⟨me, hme⟩ : ∃ me, me = es.length := ⟨_, rfl⟩
      have HRE : Hid (∀ W, Fr No w7 W → Rd W (.slice A7 me c7) me 1 (ints es)) := Lib.hid (fun W hW => by have h9 := (ho7.fr hW (fun _ _ h => h)).rd; rw [← hme] at h9; exact h9)
      rw [← hme] at HCO HEL ⊢
      have HME := Lib.hid hme
      have HML2 : Hid (me ≤ 2048) := Lib.hid HEL.out
      clear ho7 hb7 hes hme
      go_wp2_with fail
      with_reducible refine (HNX.out (-1) _ (by repeat (first | exact Fr.refl _ _ | apply Fr.drewN | apply Fr.drew))).mono ?_
      rintro x8 w8 ⟨rfl, n8, hw8⟩
      rw [HN0.out]
      have F8 := Lib.hid (show Fr No w7 w8 from drewN_fr (by repeat (first | exact Fr.refl _ _ | apply Fr.drewN | apply Fr.drew)) hw8)
      clear hw8
      go_wp2_with fail
      go_loopw [8, 9] (fun a v wq => ∃ j : Nat, j ≤ me ∧ v = .int .i64 j ∧ a = .int .i64 (atK es j) ∧ Hid (Fr No w7 wq)) (fun _ v _ => me - (intOf v).toNat)
      case atStart => exact ⟨0, Nat.zero_le _, rfl, rfl, F8⟩
      case round =>
        rename_i wq
        obtain ⟨j, hj, rfl, rfl, FQ⟩ := hrel
        have j1 : (0 : Int) ≤ (j : Int) := Int.natCast_nonneg _
        by_cases hlt : j < me
        · have hlm : j < es.length := by rw [← HME.out]; exact hlt
          obtain ⟨ad, rfl, x0a⟩ := rd_at (HRE.out _ FQ.out) j hlm
          have hy := List.getElem?_eq_getElem hlm
          have hym := HEM.out _ (List.getElem_mem hlm)
          generalize es[j] = y at x0a hy hym
          have hat := at_in es j y hy
          have HN2 := Lib.hid (HN1.out j y hy)
          have y1 : (0 : Int) ≤ y := hym.1
          have y2 : y < 2048 := hym.2.1
          have HLT := Lib.hid hlt
          have i2 : (j : Int) < (me : Int) := by omega
          have i3 : (j : Int) < 2048 := by have := HML2.out; omega
          have gy : (y == y) = true := by simp
          rw [hat]
          clear hlm hy hym hlt hat
          go_wp2_with fail
          with_reducible refine (HNX.out (y + 1) _ (by repeat (first | exact FQ.out | apply Fr.drewN | apply Fr.drew))).mono ?_
          rintro x9 w9 ⟨rfl, n9, hw9⟩
          rw [HN2.out]
          have F9 := Lib.hid (show Fr No w7 w9 from drewN_fr (by repeat (first | exact FQ.out | apply Fr.drewN | apply Fr.drew)) hw9)
          clear hw9
          go_wp2_with fail
          go_roundw
          case rel => exact ⟨j + 1, HLT.out, by go_num, rfl, F9⟩
          case measure => have := HLT.out; simp [intOf]; omega
        · obtain rfl : j = me := by omega
          have hat := at_end es j (by rw [← HME.out]; exact Nat.le_refl _)
          rw [hat]
          have gm : ((j : Int) == (j : Int)) = true := by simp
          clear hlt hat
          go_wp2_with fail
          with_reducible refine (HCO.out _ (by repeat (first | exact FQ.out | apply Fr.drewN | apply Fr.drew))).mono ?_
          rintro x9 w9 ⟨rfl, n9, hw9⟩
          have F9 := Lib.hid (show Fr No w7 w9 from drewN_fr (by repeat (first | exact FQ.out | apply Fr.drewN | apply Fr.drew)) hw9)
          clear hw9
          go_wp2_with fail
          go_ret
          exact ⟨rfl, B7.out.trans (F9.out.below B7.out.size (fun _ h => h.elim))⟩

theorem steps_any (n : Int) (v : Value) (l : List Int) (w : World) (ht : Tab w) (hr : Rd w v l.length 1 (ints l)) :
    Calls Tryd.prog 3 #[.int .i64 n, v] w (Same w (.bool true)) := by
  obtain ⟨A, c, rfl, hc⟩ := hr.slice
  by_cases h : l.length ≤ 80
  · exact steps_less n A _ c l rfl h w ht hr hc
  · exact steps_more n A _ c l rfl (by omega) w ht hr hc
end Go.Proofs.YtncbbphhndmibaaDoor.BitSteps
