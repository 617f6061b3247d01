/- Proved: what one call of a script of package scutagelaw04 does, where it is Move or Load. -/
import Derived.Test.YticlhahjgiaieaaMemStep
namespace Go.Proofs.Yticlhahjgiaieaa.MemStep
open Go.RowKit Go.Proofs.Yticlhahjgiaieaa.H Go.Proofs.Yticlhahjgiaieaa.Words Go.Proofs.Yticlhahjgiaieaa.Mem Go.Proofs.Yticlhahjgiaieaa.MemLaw

theorem moveL_zero (l : List Int) (a b : Nat) : moveL l a b 0 = l := by simp [moveL]
theorem moveL_succ (l : List Int) (a b n : Nat) (y : Int) (h : a + n < l.length) (hy : l[b + n]? = some y) : (moveL l a b n).set (a + n) y = moveL l a b (n + 1) := by
  obtain ⟨hb, hy⟩ := List.getElem?_eq_some_iff.1 hy
  have h1 : (l.take a ++ (l.drop b).take n).length = a + n := by simp; omega
  unfold moveL
  rw [List.set_append_right _ _ (by omega), h1, Nat.sub_self, List.drop_eq_getElem_cons h, List.set_cons_zero, List.take_succ_eq_append_getElem (by simp; omega), List.getElem_drop, hy, List.append_assoc, List.append_assoc, List.append_assoc]
  rfl

set_option maxRecDepth 100000 in
set_option maxHeartbeats 6400000 in
theorem move_no1 (B g : Nat) (v bv : Value) (l : List Int) (a b n x : Int) (w : World) (hs : Both w B g v bv l) (hh : Hid (There l a n)) (ha : ¬ There l b n) :
    Calls Try.prog 23 #[.pointer (some ⟨g, 0, none⟩), bv, .agg #[.int .i64 3, .int .i64 a, .int .i64 b, .int .i64 n, .int .i64 x]] w (StepPost B g v bv w) := by
  obtain ⟨A, c, rfl, hAc⟩ := hs.row.slice
  have HS := Lib.hid hs
  have HFT := Lib.hid (show ∀ k, Foot g v k → k < w.heap.size from fun k hk => (hs.mem.foot_lt k hk).2)
  have HB := Lib.hid (show B ≤ w.heap.size by have := hs.mem.foot_lt g (.inl rfl); omega)
  have hlen := hs.mem.len
  have HR := Lib.hid (fun (W : World) (hW : Fr No w W) => (hs.row.fr hW (fun _ _ h => h)).rd)
  clear hs
  go_enter Try.func23, Try.ntmps23
  go_wp2_with (at_builtin; refine app_own (v := .slice none 0 0) (l := []) (u := .slice A l.length c) rfl _ _ rfl (B := w.heap.size) rfl (Own.nil _ _) rfl (HR.out _ (by repeat (first | exact Fr.refl _ _ | apply Fr.drewN | apply Fr.drew | apply Fr.alloc))) (by simp; omega) (by simp) ?_; intro v5 w5 hown5 hgrow5 hat5; refine Hid.out ?_)
  simp only [List.nil_append] at hown5
  obtain ⟨A5, c5, rfl, hA5⟩ := hown5.slice
  have HG : Hid (Begun w w5 B g v (.slice A l.length c) l ⟨3, a, b, n, x⟩ (.slice A5 l.length c5)) := Lib.hid (by
    have hf : Fr No w w5 := Fr.grown (by repeat (first | exact Fr.refl _ _ | apply Fr.drewN | apply Fr.drew | apply Fr.alloc)) hgrow5 (fun k hk => by cases hk)
    refine ⟨HS.out.fr hf, (hgrow5.block w.heap.size (by simp) (by simp [Value.ownBlock])).trans (heap_alloc_new w _), hown5, ?_, hf, HFT.out, HB.out, fun k hk => (HS.out.row.lt k hk).2⟩
    intro k hk
    rcases hat5 with h | h
    · rw [h] at hk; cases hk
    · rw [h] at hk; injection hk with hk; simp at hk; omega)
  clear hown5 hgrow5 hat5
  have k0 : w5.cell? ⟨w.heap.size, 0, none⟩ = some (.int .i64 3) := cell_of HG.out.op 0
  have k1 : w5.cell? ⟨w.heap.size, 1, none⟩ = some (.int .i64 a) := cell_of HG.out.op 1
  have k2 : w5.cell? ⟨w.heap.size, 2, none⟩ = some (.int .i64 b) := cell_of HG.out.op 2
  have k3 : w5.cell? ⟨w.heap.size, 3, none⟩ = some (.int .i64 n) := cell_of HG.out.op 3
  have k4 : w5.cell? ⟨w.heap.size, 4, none⟩ = some (.int .i64 x) := cell_of HG.out.op 4
  refine Lib.hid ?_
  have HTH := Lib.hid ha
  have HNO : Hid (¬ (There l a n ∧ There l b n)) := Lib.hid (fun h => ha h.2)
  clear ha
  go_wp2_with fail
  refine (there_yes A c l a n _ hh.out (by omega)).mono ?_
  rintro e wt ⟨rfl, nt, rfl⟩
  go_wp2_with fail
  refine (there_no A c l b n _ HTH.out (by omega)).mono ?_
  rintro e ws ⟨rfl, nu, rfl⟩
  go_wp2_with fail
  go_loopw [13] (fun i wr => i = .int .i64 0 ∧ wr = w5.drewN (nt + nu)) (fun _ _ => 0)
  case atStart => exact ⟨rfl, rfl⟩
  case round =>
    obtain ⟨rfl, rfl⟩ := hrel
    have F6 : Hid (Fr (fun k => (Value.slice A5 l.length c5).ownBlock = some k) w5 (w5.drewN (nt + nu))) := Lib.hid (Fr.drewN (Fr.refl _ w5) (nt + nu))
    go_wp2_with fail
    refine (move_no B g v l a b n _ (HG.out.mem6 F6.out) HNO.out).mono ?_
    rintro e w7 ⟨rfl, hm7, hf7⟩
    go_wp2
    go_ret2
    exact HG.out.copy (HG.out.row.fr (S := No) (by repeat (first | exact Fr.refl _ _ | apply Fr.drewN | apply Fr.drew | apply Fr.alloc)) (fun _ _ h => h)) F6.out hm7 hf7

set_option maxRecDepth 100000 in
set_option maxHeartbeats 6400000 in
theorem move_no2 (B g : Nat) (v bv : Value) (l : List Int) (a b n x : Int) (w : World) (hs : Both w B g v bv l) (ha : ¬ There l a n) :
    Calls Try.prog 23 #[.pointer (some ⟨g, 0, none⟩), bv, .agg #[.int .i64 3, .int .i64 a, .int .i64 b, .int .i64 n, .int .i64 x]] w (StepPost B g v bv w) := by
  obtain ⟨A, c, rfl, hAc⟩ := hs.row.slice
  have HS := Lib.hid hs
  have HFT := Lib.hid (show ∀ k, Foot g v k → k < w.heap.size from fun k hk => (hs.mem.foot_lt k hk).2)
  have HB := Lib.hid (show B ≤ w.heap.size by have := hs.mem.foot_lt g (.inl rfl); omega)
  have hlen := hs.mem.len
  have HR := Lib.hid (fun (W : World) (hW : Fr No w W) => (hs.row.fr hW (fun _ _ h => h)).rd)
  clear hs
  go_enter Try.func23, Try.ntmps23
  go_wp2_with (at_builtin; refine app_own (v := .slice none 0 0) (l := []) (u := .slice A l.length c) rfl _ _ rfl (B := w.heap.size) rfl (Own.nil _ _) rfl (HR.out _ (by repeat (first | exact Fr.refl _ _ | apply Fr.drewN | apply Fr.drew | apply Fr.alloc))) (by simp; omega) (by simp) ?_; intro v5 w5 hown5 hgrow5 hat5; refine Hid.out ?_)
  simp only [List.nil_append] at hown5
  obtain ⟨A5, c5, rfl, hA5⟩ := hown5.slice
  have HG : Hid (Begun w w5 B g v (.slice A l.length c) l ⟨3, a, b, n, x⟩ (.slice A5 l.length c5)) := Lib.hid (by
    have hf : Fr No w w5 := Fr.grown (by repeat (first | exact Fr.refl _ _ | apply Fr.drewN | apply Fr.drew | apply Fr.alloc)) hgrow5 (fun k hk => by cases hk)
    refine ⟨HS.out.fr hf, (hgrow5.block w.heap.size (by simp) (by simp [Value.ownBlock])).trans (heap_alloc_new w _), hown5, ?_, hf, HFT.out, HB.out, fun k hk => (HS.out.row.lt k hk).2⟩
    intro k hk
    rcases hat5 with h | h
    · rw [h] at hk; cases hk
    · rw [h] at hk; injection hk with hk; simp at hk; omega)
  clear hown5 hgrow5 hat5
  have k0 : w5.cell? ⟨w.heap.size, 0, none⟩ = some (.int .i64 3) := cell_of HG.out.op 0
  have k1 : w5.cell? ⟨w.heap.size, 1, none⟩ = some (.int .i64 a) := cell_of HG.out.op 1
  have k2 : w5.cell? ⟨w.heap.size, 2, none⟩ = some (.int .i64 b) := cell_of HG.out.op 2
  have k3 : w5.cell? ⟨w.heap.size, 3, none⟩ = some (.int .i64 n) := cell_of HG.out.op 3
  have k4 : w5.cell? ⟨w.heap.size, 4, none⟩ = some (.int .i64 x) := cell_of HG.out.op 4
  refine Lib.hid ?_
  have HTH := Lib.hid ha
  have HNO : Hid (¬ (There l a n ∧ There l b n)) := Lib.hid (fun h => ha h.1)
  clear ha
  go_wp2_with fail
  refine (there_no A c l a n _ HTH.out (by omega)).mono ?_
  rintro e wt ⟨rfl, nt, rfl⟩
  go_wp2_with fail
  go_loopw [13] (fun i wr => i = .int .i64 0 ∧ wr = w5.drewN nt) (fun _ _ => 0)
  case atStart => exact ⟨rfl, rfl⟩
  case round =>
    obtain ⟨rfl, rfl⟩ := hrel
    have F6 : Hid (Fr (fun k => (Value.slice A5 l.length c5).ownBlock = some k) w5 (w5.drewN nt)) := Lib.hid (Fr.drewN (Fr.refl _ w5) nt)
    go_wp2_with fail
    refine (move_no B g v l a b n _ (HG.out.mem6 F6.out) HNO.out).mono ?_
    rintro e w7 ⟨rfl, hm7, hf7⟩
    go_wp2
    go_ret2
    exact HG.out.copy (HG.out.row.fr (S := No) (Fr.drewN (Fr.refl _ w5) nt) (fun _ _ h => h)) F6.out hm7 hf7

set_option maxRecDepth 100000 in
set_option maxHeartbeats 6400000 in
theorem move_yes1 (B g : Nat) (v bv : Value) (l : List Int) (a b n : Nat) (x : Int) (w : World) (hs : Both w B g v bv l) (ha : a + n ≤ l.length) (hb : b + n ≤ l.length) :
    Calls Try.prog 23 #[.pointer (some ⟨g, 0, none⟩), bv, .agg #[.int .i64 3, .int .i64 a, .int .i64 b, .int .i64 n, .int .i64 x]] w (StepPost B g v bv w) := by
  obtain ⟨A, c, rfl, hAc⟩ := hs.row.slice
  have HS := Lib.hid hs
  have HFT := Lib.hid (show ∀ k, Foot g v k → k < w.heap.size from fun k hk => (hs.mem.foot_lt k hk).2)
  have HB := Lib.hid (show B ≤ w.heap.size by have := hs.mem.foot_lt g (.inl rfl); omega)
  have hlen := hs.mem.len
  have HR := Lib.hid (fun (W : World) (hW : Fr No w W) => (hs.row.fr hW (fun _ _ h => h)).rd)
  clear hs
  go_enter Try.func23, Try.ntmps23
  go_wp2_with (at_builtin; refine app_own (v := .slice none 0 0) (l := []) (u := .slice A l.length c) rfl _ _ rfl (B := w.heap.size) rfl (Own.nil _ _) rfl (HR.out _ (by repeat (first | exact Fr.refl _ _ | apply Fr.drewN | apply Fr.drew | apply Fr.alloc))) (by simp; omega) (by simp) ?_; intro v5 w5 hown5 hgrow5 hat5; refine Hid.out ?_)
  simp only [List.nil_append] at hown5
  obtain ⟨A5, c5, rfl, hA5⟩ := hown5.slice
  have HG : Hid (Begun w w5 B g v (.slice A l.length c) l ⟨3, a, b, n, x⟩ (.slice A5 l.length c5)) := Lib.hid (by
    have hf : Fr No w w5 := Fr.grown (by repeat (first | exact Fr.refl _ _ | apply Fr.drewN | apply Fr.drew | apply Fr.alloc)) hgrow5 (fun k hk => by cases hk)
    refine ⟨HS.out.fr hf, (hgrow5.block w.heap.size (by simp) (by simp [Value.ownBlock])).trans (heap_alloc_new w _), hown5, ?_, hf, HFT.out, HB.out, fun k hk => (HS.out.row.lt k hk).2⟩
    intro k hk
    rcases hat5 with h | h
    · rw [h] at hk; cases hk
    · rw [h] at hk; injection hk with hk; simp at hk; omega)
  clear hown5 hgrow5 hat5
  have k0 : w5.cell? ⟨w.heap.size, 0, none⟩ = some (.int .i64 3) := cell_of HG.out.op 0
  have k1 : w5.cell? ⟨w.heap.size, 1, none⟩ = some (.int .i64 a) := cell_of HG.out.op 1
  have k2 : w5.cell? ⟨w.heap.size, 2, none⟩ = some (.int .i64 b) := cell_of HG.out.op 2
  have k3 : w5.cell? ⟨w.heap.size, 3, none⟩ = some (.int .i64 n) := cell_of HG.out.op 3
  have k4 : w5.cell? ⟨w.heap.size, 4, none⟩ = some (.int .i64 x) := cell_of HG.out.op 4
  refine Lib.hid ?_
  have HTA : Hid (There l a n) := Lib.hid (by unfold There; omega)
  have HTB : Hid (There l b n) := Lib.hid (by unfold There; omega)
  go_wp2_with fail
  refine (there_yes A c l a n _ HTA.out (by omega)).mono ?_
  rintro e wt ⟨rfl, nt, rfl⟩
  go_wp2_with fail
  refine (there_yes A c l b n _ HTB.out (by omega)).mono ?_
  rintro e ws ⟨rfl, nu, rfl⟩
  clear k0 k1 k2 k3 k4
  go_wp2_with fail
  go_loopw [13] (fun i wr => ∃ j : Nat, j ≤ n ∧ i = .int .i64 j ∧ Hid (Own wr w.heap.size (.slice A5 l.length c5) (moveL l a b j) ∧ Fr (fun k => (Value.slice A5 l.length c5).ownBlock = some k) w5 wr)) (fun i _ => n - (intOf i).toNat)
  case atStart => exact ⟨0, Nat.zero_le _, rfl, Lib.hid ⟨by rw [moveL_zero]; exact HG.out.row.fr (S := No) (by repeat (first | exact Fr.refl _ _ | apply Fr.drewN | apply Fr.drew | apply Fr.alloc)) (fun _ _ h => h), (by repeat (first | exact Fr.refl _ _ | apply Fr.drewN | apply Fr.drew | apply Fr.alloc))⟩⟩
  case round =>
    obtain ⟨j, hj, rfl, HK⟩ := hrel
    have HO := Lib.hid (HG.out.op6 HK.out.2)
    have k1 : wr.cell? ⟨w.heap.size, 1, none⟩ = some (.int .i64 a) := cell_of HO.out 1
    have k2 : wr.cell? ⟨w.heap.size, 2, none⟩ = some (.int .i64 b) := cell_of HO.out 2
    have k3 : wr.cell? ⟨w.heap.size, 3, none⟩ = some (.int .i64 n) := cell_of HO.out 3
    by_cases hlt : j < n
    · have hfl : (moveL l a b j).length = l.length := moveL_length _ _ _ _ (by omega) (by omega)
      obtain ⟨d, y, rfl, x0, f0, _⟩ := HK.out.1.cell (a + j) (by omega)
      obtain ⟨d2, z, rfl, z0, _, hz⟩ := (HG.out.both.row.fr HK.out.2 (fun k hk h => by have := HG.out.old k hk; have := HG.out.new k h; omega)).cell (b + j) (by omega)
      have HZ := Lib.hid hz
      clear hfl hz
      have nd : d ≠ w.heap.size := by have := HG.out.new d rfl; omega
      have nd2 : d ≠ d2 := by have := HG.out.new d rfl; have := HG.out.old d2 rfl; omega
      have i1 : (0 : Int) ≤ (a : Int) := Int.natCast_nonneg _
      have i2 : (0 : Int) ≤ (j : Int) := Int.natCast_nonneg _
      have i0 : (0 : Int) ≤ (b : Int) := Int.natCast_nonneg _
      have i3 : (a : Int) + j < (l.length : Int) := by omega
      have i5 : (b : Int) + j < (l.length : Int) := by omega
      have i4 : (j : Int) < n := by omega
      go_wp2
      go_region
      go_wp2
      go_roundw
      case rel =>
        refine ⟨j + 1, by omega, by go_num, Lib.hid ⟨?_, ?_⟩⟩
        · have h2 := HK.out.1.put (d := d) (a + j) z
          rw [moveL_succ _ _ _ _ _ (by omega) HZ.out] at h2
          exact h2
        · exact (HK.out.2.setCell (p := ⟨d, a + j, none⟩) (.inl rfl) _).drew
      case measure => simp [intOf]; omega
    · obtain rfl : j = n := by omega
      go_wp2_with fail
      refine (move_yes B g v l a b j _ (HG.out.mem6 HK.out.2) ha hb).mono ?_
      rintro e w7 ⟨rfl, hm7, hf7⟩
      go_wp2
      go_ret2
      exact HG.out.copy HK.out.1 HK.out.2 hm7 hf7

set_option maxRecDepth 100000 in
set_option maxHeartbeats 6400000 in
theorem load_no1 (B g : Nat) (v bv : Value) (l : List Int) (k a b n x : Int) (w : World) (h1 : k ≠ 1) (h2 : k ≠ 2) (h3 : k ≠ 3) (hs : Both w B g v bv l) (ha : ¬ There l a 1) :
    Calls Try.prog 23 #[.pointer (some ⟨g, 0, none⟩), bv, .agg #[.int .i64 k, .int .i64 a, .int .i64 b, .int .i64 n, .int .i64 x]] w (StepPost B g v bv w) := by
  obtain ⟨A, c, rfl, hAc⟩ := hs.row.slice
  have HS := Lib.hid hs
  have HFT := Lib.hid (show ∀ k, Foot g v k → k < w.heap.size from fun k hk => (hs.mem.foot_lt k hk).2)
  have HB := Lib.hid (show B ≤ w.heap.size by have := hs.mem.foot_lt g (.inl rfl); omega)
  have hlen := hs.mem.len
  have HR := Lib.hid (fun (W : World) (hW : Fr No w W) => (hs.row.fr hW (fun _ _ h => h)).rd)
  clear hs
  have e1 : (k == 1) = false := beq_eq_false_iff_ne.mpr h1
  have e2 : (k == 2) = false := beq_eq_false_iff_ne.mpr h2
  have e3 : (k == 3) = false := beq_eq_false_iff_ne.mpr h3
  clear h1 h2 h3
  go_enter Try.func23, Try.ntmps23
  go_wp2_with (at_builtin; refine app_own (v := .slice none 0 0) (l := []) (u := .slice A l.length c) rfl _ _ rfl (B := w.heap.size) rfl (Own.nil _ _) rfl (HR.out _ (by repeat (first | exact Fr.refl _ _ | apply Fr.drewN | apply Fr.drew | apply Fr.alloc))) (by simp; omega) (by simp) ?_; intro v5 w5 hown5 hgrow5 hat5; refine Hid.out ?_)
  simp only [List.nil_append] at hown5
  obtain ⟨A5, c5, rfl, hA5⟩ := hown5.slice
  have HG : Hid (Begun w w5 B g v (.slice A l.length c) l ⟨k, a, b, n, x⟩ (.slice A5 l.length c5)) := Lib.hid (by
    have hf : Fr No w w5 := Fr.grown (by repeat (first | exact Fr.refl _ _ | apply Fr.drewN | apply Fr.drew | apply Fr.alloc)) hgrow5 (fun k hk => by cases hk)
    refine ⟨HS.out.fr hf, (hgrow5.block w.heap.size (by simp) (by simp [Value.ownBlock])).trans (heap_alloc_new w _), hown5, ?_, hf, HFT.out, HB.out, fun k hk => (HS.out.row.lt k hk).2⟩
    intro k hk
    rcases hat5 with h | h
    · rw [h] at hk; cases hk
    · rw [h] at hk; injection hk with hk; simp at hk; omega)
  clear hown5 hgrow5 hat5
  have k0 : w5.cell? ⟨w.heap.size, 0, none⟩ = some (.int .i64 k) := cell_of HG.out.op 0
  have k1 : w5.cell? ⟨w.heap.size, 1, none⟩ = some (.int .i64 a) := cell_of HG.out.op 1
  have k2 : w5.cell? ⟨w.heap.size, 2, none⟩ = some (.int .i64 b) := cell_of HG.out.op 2
  have k3 : w5.cell? ⟨w.heap.size, 3, none⟩ = some (.int .i64 n) := cell_of HG.out.op 3
  have k4 : w5.cell? ⟨w.heap.size, 4, none⟩ = some (.int .i64 x) := cell_of HG.out.op 4
  refine Lib.hid ?_
  have HTH := Lib.hid ha
  clear ha
  go_wp2_with fail
  refine (load_no B g v l a _ HG.out.both.mem HTH.out).mono ?_
  rintro e w6 ⟨rfl, n6, rfl⟩
  go_wp2_with fail
  refine (there_no A c l a 1 _ HTH.out (by omega)).mono ?_
  rintro e wt ⟨rfl, nt, rfl⟩
  go_wp2
  go_ret2
  exact HG.out.keep rfl (HG.out.both.mem.no (by repeat (first | exact Fr.refl _ _ | apply Fr.drewN | apply Fr.drew | apply Fr.alloc))) (by repeat (first | exact Fr.refl _ _ | apply Fr.drewN | apply Fr.drew | apply Fr.alloc))

set_option maxRecDepth 100000 in
set_option maxHeartbeats 6400000 in
theorem load_yes1 (B g : Nat) (v bv : Value) (l : List Int) (k : Int) (a : Nat) (b n x : Int) (w : World) (h1 : k ≠ 1) (h2 : k ≠ 2) (h3 : k ≠ 3) (hs : Both w B g v bv l) (ha : a < l.length) :
    Calls Try.prog 23 #[.pointer (some ⟨g, 0, none⟩), bv, .agg #[.int .i64 k, .int .i64 a, .int .i64 b, .int .i64 n, .int .i64 x]] w (StepPost B g v bv w) := by
  obtain ⟨A, c, rfl, hAc⟩ := hs.row.slice
  have HS := Lib.hid hs
  have HFT := Lib.hid (show ∀ k, Foot g v k → k < w.heap.size from fun k hk => (hs.mem.foot_lt k hk).2)
  have HB := Lib.hid (show B ≤ w.heap.size by have := hs.mem.foot_lt g (.inl rfl); omega)
  have hlen := hs.mem.len
  have HR := Lib.hid (fun (W : World) (hW : Fr No w W) => (hs.row.fr hW (fun _ _ h => h)).rd)
  clear hs
  have e1 : (k == 1) = false := beq_eq_false_iff_ne.mpr h1
  have e2 : (k == 2) = false := beq_eq_false_iff_ne.mpr h2
  have e3 : (k == 3) = false := beq_eq_false_iff_ne.mpr h3
  clear h1 h2 h3
  go_enter Try.func23, Try.ntmps23
  go_wp2_with (at_builtin; refine app_own (v := .slice none 0 0) (l := []) (u := .slice A l.length c) rfl _ _ rfl (B := w.heap.size) rfl (Own.nil _ _) rfl (HR.out _ (by repeat (first | exact Fr.refl _ _ | apply Fr.drewN | apply Fr.drew | apply Fr.alloc))) (by simp; omega) (by simp) ?_; intro v5 w5 hown5 hgrow5 hat5; refine Hid.out ?_)
  simp only [List.nil_append] at hown5
  obtain ⟨A5, c5, rfl, hA5⟩ := hown5.slice
  have HG : Hid (Begun w w5 B g v (.slice A l.length c) l ⟨k, a, b, n, x⟩ (.slice A5 l.length c5)) := Lib.hid (by
    have hf : Fr No w w5 := Fr.grown (by repeat (first | exact Fr.refl _ _ | apply Fr.drewN | apply Fr.drew | apply Fr.alloc)) hgrow5 (fun k hk => by cases hk)
    refine ⟨HS.out.fr hf, (hgrow5.block w.heap.size (by simp) (by simp [Value.ownBlock])).trans (heap_alloc_new w _), hown5, ?_, hf, HFT.out, HB.out, fun k hk => (HS.out.row.lt k hk).2⟩
    intro k hk
    rcases hat5 with h | h
    · rw [h] at hk; cases hk
    · rw [h] at hk; injection hk with hk; simp at hk; omega)
  clear hown5 hgrow5 hat5
  have k0 : w5.cell? ⟨w.heap.size, 0, none⟩ = some (.int .i64 k) := cell_of HG.out.op 0
  have k1 : w5.cell? ⟨w.heap.size, 1, none⟩ = some (.int .i64 a) := cell_of HG.out.op 1
  have k2 : w5.cell? ⟨w.heap.size, 2, none⟩ = some (.int .i64 b) := cell_of HG.out.op 2
  have k3 : w5.cell? ⟨w.heap.size, 3, none⟩ = some (.int .i64 n) := cell_of HG.out.op 3
  have k4 : w5.cell? ⟨w.heap.size, 4, none⟩ = some (.int .i64 x) := cell_of HG.out.op 4
  refine Lib.hid ?_
  have HTH : Hid (There l a 1) := Lib.hid (by unfold There; omega)
  obtain ⟨d, y, rfl, x0, f0, hy⟩ := HG.out.both.row.cell a ha
  have HY := Lib.hid hy
  clear hy
  go_wp2_with fail
  refine (load_yes B g v l a y _ HG.out.both.mem HY.out).mono ?_
  rintro e w6 ⟨rfl, n6, rfl⟩
  go_wp2_with fail
  refine (there_yes (some ⟨d, 0, none⟩) c l a 1 _ HTH.out (by omega)).mono ?_
  rintro e wt ⟨rfl, nt, rfl⟩
  have i1 : (0 : Int) ≤ (a : Int) := Int.natCast_nonneg _
  have i2 : (a : Int) < (l.length : Int) := by omega
  go_wp2
  go_quiet (fail)
  go_wp2
  go_ret2
  exact HG.out.keep rfl (HG.out.both.mem.no (by repeat (first | exact Fr.refl _ _ | apply Fr.drewN | apply Fr.drew | apply Fr.alloc))) (by repeat (first | exact Fr.refl _ _ | apply Fr.drewN | apply Fr.drew | apply Fr.alloc))

/-- any call of a script -/
theorem step_any (B g : Nat) (v bv : Value) (l : List Int) (p : Cl) (w : World) (hs : Both w B g v bv l) :
    Calls Try.prog 23 #[.pointer (some ⟨g, 0, none⟩), bv, .agg p.cells.toArray] w (StepPost B g v bv w) := by
  obtain ⟨k, a, b, n, x⟩ := p
  show Calls Try.prog 23 #[.pointer (some ⟨g, 0, none⟩), bv, .agg #[.int .i64 k, .int .i64 a, .int .i64 b, .int .i64 n, .int .i64 x]] w (StepPost B g v bv w)
  by_cases h1 : k = 1
  · subst h1
    by_cases ht : There l a 1
    · obtain ⟨a, rfl⟩ := Int.eq_ofNat_of_zero_le ht.1
      exact store_yes1 B g v bv l a b n x w hs (by unfold There at ht; omega)
    · exact store_no1 B g v bv l a b n x w hs ht
  by_cases h2 : k = 2
  · subst h2
    by_cases ht : There l a n
    · obtain ⟨a, rfl⟩ := Int.eq_ofNat_of_zero_le ht.1
      obtain ⟨n, rfl⟩ := Int.eq_ofNat_of_zero_le ht.2.1
      exact fill_yes1 B g v bv l a b n x w hs (by unfold There at ht; omega)
    · exact fill_no1 B g v bv l a b n x w hs ht
  by_cases h3 : k = 3
  · subst h3
    by_cases ht : There l a n
    · by_cases hu : There l b n
      · obtain ⟨a, rfl⟩ := Int.eq_ofNat_of_zero_le ht.1
        obtain ⟨b, rfl⟩ := Int.eq_ofNat_of_zero_le hu.1
        obtain ⟨n, rfl⟩ := Int.eq_ofNat_of_zero_le ht.2.1
        exact move_yes1 B g v bv l a b n x w hs (by unfold There at ht; omega) (by unfold There at hu; omega)
      · exact move_no1 B g v bv l a b n x w hs (Lib.hid ht) hu
    · exact move_no2 B g v bv l a b n x w hs ht
  · by_cases ht : There l a 1
    · obtain ⟨a, rfl⟩ := Int.eq_ofNat_of_zero_le ht.1
      exact load_yes1 B g v bv l k a b n x w h1 h2 h3 hs (by unfold There at ht; omega)
    · exact load_no1 B g v bv l k a b n x w h1 h2 h3 hs ht

end Go.Proofs.Yticlhahjgiaieaa.MemStep
