/- Proved: what one call of a script of package scutagelaw04 does to a memory and to its list of words, and that they agree. -/
import Derived.Test.YticlhahjgiaieaaMemLaw
import Derived.RegionTactic
namespace Go.Proofs.Yticlhahjgiaieaa.MemStep
open Go.RowKit Go.Proofs.Yticlhahjgiaieaa.H Go.Proofs.Yticlhahjgiaieaa.Words Go.Proofs.Yticlhahjgiaieaa.Mem Go.Proofs.Yticlhahjgiaieaa.MemLaw

/-- a memory, and a row with the same words -/
structure Both (w : World) (B g : Nat) (v bv : Value) (l : List Int) : Prop where
  mem : M w B g v l
  row : Own w B bv l
  sep : ∀ k, bv.ownBlock = some k → ¬ Foot g v k
theorem Both.fr {w w' : World} {B g : Nat} {v bv : Value} {l : List Int} (h : Both w B g v bv l) (hf : Fr No w w') : Both w' B g v bv l :=
  ⟨h.mem.no hf, h.row.fr hf (fun _ _ h => h), h.sep⟩
/-- a row that stays in its block, or comes to a new one -/
def Moved (bv bv' : Value) (w : World) : Prop := bv'.ownBlock = bv.ownBlock ∨ ∀ k, bv'.ownBlock = some k → w.heap.size ≤ k

def StepPost (B g : Nat) (v bv : Value) (w : World) (e : Ending) (w' : World) : Prop :=
  ∃ bv' l', e = .returned (.tuple #[bv', .bool true]) ∧ Both w' B g v bv' l' ∧ Fr (Foot g v) w w' ∧ Moved bv bv' w

/-- behind the first part of a step: the call lies in block w.heap.size, and the list's copy v5 is new -/
structure Begun (w w5 : World) (B g : Nat) (v bv : Value) (l : List Int) (p : Cl) (v5 : Value) : Prop where
  both : Both w5 B g v bv l
  op : w5.heap[w.heap.size]? = some (.cells p.cells.toArray 49 (0, 0))
  row : Own w5 w.heap.size v5 l
  new : ∀ k, v5.ownBlock = some k → w.heap.size < k
  fr : Fr No w w5
  foot : ∀ k, Foot g v k → k < w.heap.size
  base : B ≤ w.heap.size
  old : ∀ k, bv.ownBlock = some k → k < w.heap.size

theorem Begun.copy {w w5 w6 w7 : World} {B g : Nat} {v bv : Value} {l l' : List Int} {p : Cl} {v5 : Value} (h : Begun w w5 B g v bv l p v5) (hr : Own w6 w.heap.size v5 l') (hf6 : Fr (fun k => v5.ownBlock = some k) w5 w6) (hm : M w7 B g v l') (hf7 : Fr (Foot g v) w6 w7) :
    StepPost B g v bv w (.returned (.tuple #[v5, .bool true])) w7 := by
  have hn : ∀ k, v5.ownBlock = some k → ¬ Foot g v k := fun k hk hf => by have := h.new k hk; have := h.foot k hf; omega
  refine ⟨v5, l', rfl, ⟨hm, (hr.fr hf7 hn).lower h.base, hn⟩, ?_, .inr (fun k hk => by have := h.new k hk; omega)⟩
  exact ((h.fr.mono (fun _ h => h.elim)).trans hf6 (fun i hi => .inr (by have := h.new i hi; omega))).trans hf7 (fun i hi => .inl hi)
theorem Begun.mem6 {w w5 w6 : World} {B g : Nat} {v bv : Value} {l : List Int} {p : Cl} {v5 : Value} (h : Begun w w5 B g v bv l p v5) (hf6 : Fr (fun k => v5.ownBlock = some k) w5 w6) : M w6 B g v l :=
  h.both.mem.fr hf6 (fun k hk h2 => by have := h.new k h2; have := h.foot k hk; omega)
theorem Begun.op6 {w w5 w6 : World} {B g : Nat} {v bv : Value} {l : List Int} {p : Cl} {v5 : Value} (h : Begun w w5 B g v bv l p v5) (hf6 : Fr (fun k => v5.ownBlock = some k) w5 w6) : w6.heap[w.heap.size]? = some (.cells p.cells.toArray 49 (0, 0)) :=
  hf6.blk h.op (fun h2 => by have := h.new _ h2; omega)
theorem Begun.keep {w w5 w7 : World} {B g : Nat} {v bv : Value} {l l' : List Int} {p : Cl} {v5 : Value} (h : Begun w w5 B g v bv l p v5) (hl : l' = l) (hm : M w7 B g v l') (hf7 : Fr (Foot g v) w5 w7) :
    StepPost B g v bv w (.returned (.tuple #[bv, .bool true])) w7 := by
  subst hl
  exact ⟨bv, l', rfl, ⟨hm, h.both.row.fr hf7 h.both.sep, h.both.sep⟩, (h.fr.mono (fun _ h => h.elim)).trans hf7 (fun i hi => .inl hi), .inl rfl⟩

set_option maxRecDepth 100000 in
set_option maxHeartbeats 6400000 in
theorem store_yes1 (B g : Nat) (v bv : Value) (l : List Int) (a : Nat) (b n x : Int) (w : World) (hs : Both w B g v bv l) (ha : a < l.length) :
    Calls Try.prog 23 #[.pointer (some ⟨g, 0, none⟩), bv, .agg #[.int .i64 1, .int .i64 a, .int .i64 b, .int .i64 n, .int .i64 x]] w (StepPost B g v bv w) := by
  obtain ⟨A, c, rfl, hAc⟩ := hs.row.slice
  have HS := Lib.hid hs
  have HFT := Lib.hid (show ∀ k, Foot g v k → k < w.heap.size from fun k hk => (hs.mem.foot_lt k hk).2)
  have HB := Lib.hid (show B ≤ w.heap.size by have := hs.mem.foot_lt g (.inl rfl); omega)
  have hlen := hs.mem.len
  have HR := Lib.hid (fun (W : World) (hW : Fr No w W) => (hs.row.fr hW (fun _ _ h => h)).rd)
  clear hs
  go_enter Try.func23, Try.ntmps23
  go_wp2_with (at_builtin; refine app_own (v := .slice none 0 0) (l := []) (u := .slice A l.length c) rfl _ _ rfl (B := w.heap.size) rfl (Own.nil _ _) rfl (HR.out _ (by repeat (first | exact Fr.refl _ _ | apply Fr.drewN | apply Fr.drew | apply Fr.alloc))) (by simp; omega) (by simp) ?_; intro v5 w5 hown5 hgrow5 hat5; refine Hid.out ?_)
  simp only [List.nil_append] at hown5
  obtain ⟨A5, c5, rfl, hA5⟩ := hown5.slice
  have HG : Hid (Begun w w5 B g v (.slice A l.length c) l ⟨1, a, b, n, x⟩ (.slice A5 l.length c5)) := Lib.hid (by
    have hf : Fr No w w5 := Fr.grown (by repeat (first | exact Fr.refl _ _ | apply Fr.drewN | apply Fr.drew | apply Fr.alloc)) hgrow5 (fun k hk => by cases hk)
    refine ⟨HS.out.fr hf, (hgrow5.block w.heap.size (by simp) (by simp [Value.ownBlock])).trans (heap_alloc_new w _), hown5, ?_, hf, HFT.out, HB.out, fun k hk => (HS.out.row.lt k hk).2⟩
    intro k hk
    rcases hat5 with h | h
    · rw [h] at hk; cases hk
    · rw [h] at hk; injection hk with hk; simp at hk; omega)
  clear hown5 hgrow5 hat5
  have k0 : w5.cell? ⟨w.heap.size, 0, none⟩ = some (.int .i64 1) := cell_of HG.out.op 0
  have k1 : w5.cell? ⟨w.heap.size, 1, none⟩ = some (.int .i64 a) := cell_of HG.out.op 1
  have k2 : w5.cell? ⟨w.heap.size, 2, none⟩ = some (.int .i64 b) := cell_of HG.out.op 2
  have k3 : w5.cell? ⟨w.heap.size, 3, none⟩ = some (.int .i64 n) := cell_of HG.out.op 3
  have k4 : w5.cell? ⟨w.heap.size, 4, none⟩ = some (.int .i64 x) := cell_of HG.out.op 4
  refine Lib.hid ?_
  have HTH : Hid (There l a 1) := Lib.hid (by unfold There; omega)
  go_wp2_with fail
  refine (there_yes A c l a 1 _ HTH.out (by omega)).mono ?_
  rintro e wt ⟨rfl, nt, rfl⟩
  obtain ⟨d, y, rfl, x0, f0, _⟩ := HG.out.row.cell a ha
  have nd : d ≠ w.heap.size := by have := HG.out.new d rfl; omega
  have HN := Lib.hid nd
  go_wp2_with fail
  have F6 : Hid (Fr (fun k => (Value.slice (some ⟨d, 0, none⟩) l.length c5).ownBlock = some k) w5 ((w5.drewN nt).setCell ⟨d, a, none⟩ (.int .i64 x))) := Lib.hid (((Fr.refl (fun k => (Value.slice (some ⟨d, 0, none⟩) l.length c5).ownBlock = some k) w5).drewN nt).setCell (p := ⟨d, a, none⟩) (.inl rfl) _)
  refine (store_yes B g v l a x _ (HG.out.mem6 F6.out) ha).mono ?_
  rintro e w7 ⟨rfl, hm7, hf7⟩
  go_wp2
  go_ret2
  exact HG.out.copy ((HG.out.row.fr (S := No) (Fr.drewN (Fr.refl _ w5) nt) (fun _ _ h => h)).put (d := d) a x) F6.out hm7 hf7

set_option maxRecDepth 100000 in
set_option maxHeartbeats 6400000 in
theorem store_no1 (B g : Nat) (v bv : Value) (l : List Int) (a b n x : Int) (w : World) (hs : Both w B g v bv l) (ha : ¬ There l a 1) :
    Calls Try.prog 23 #[.pointer (some ⟨g, 0, none⟩), bv, .agg #[.int .i64 1, .int .i64 a, .int .i64 b, .int .i64 n, .int .i64 x]] w (StepPost B g v bv w) := by
  obtain ⟨A, c, rfl, hAc⟩ := hs.row.slice
  have HS := Lib.hid hs
  have HFT := Lib.hid (show ∀ k, Foot g v k → k < w.heap.size from fun k hk => (hs.mem.foot_lt k hk).2)
  have HB := Lib.hid (show B ≤ w.heap.size by have := hs.mem.foot_lt g (.inl rfl); omega)
  have hlen := hs.mem.len
  have HR := Lib.hid (fun (W : World) (hW : Fr No w W) => (hs.row.fr hW (fun _ _ h => h)).rd)
  clear hs
  go_enter Try.func23, Try.ntmps23
  go_wp2_with (at_builtin; refine app_own (v := .slice none 0 0) (l := []) (u := .slice A l.length c) rfl _ _ rfl (B := w.heap.size) rfl (Own.nil _ _) rfl (HR.out _ (by repeat (first | exact Fr.refl _ _ | apply Fr.drewN | apply Fr.drew | apply Fr.alloc))) (by simp; omega) (by simp) ?_; intro v5 w5 hown5 hgrow5 hat5; refine Hid.out ?_)
  simp only [List.nil_append] at hown5
  obtain ⟨A5, c5, rfl, hA5⟩ := hown5.slice
  have HG : Hid (Begun w w5 B g v (.slice A l.length c) l ⟨1, a, b, n, x⟩ (.slice A5 l.length c5)) := Lib.hid (by
    have hf : Fr No w w5 := Fr.grown (by repeat (first | exact Fr.refl _ _ | apply Fr.drewN | apply Fr.drew | apply Fr.alloc)) hgrow5 (fun k hk => by cases hk)
    refine ⟨HS.out.fr hf, (hgrow5.block w.heap.size (by simp) (by simp [Value.ownBlock])).trans (heap_alloc_new w _), hown5, ?_, hf, HFT.out, HB.out, fun k hk => (HS.out.row.lt k hk).2⟩
    intro k hk
    rcases hat5 with h | h
    · rw [h] at hk; cases hk
    · rw [h] at hk; injection hk with hk; simp at hk; omega)
  clear hown5 hgrow5 hat5
  have k0 : w5.cell? ⟨w.heap.size, 0, none⟩ = some (.int .i64 1) := cell_of HG.out.op 0
  have k1 : w5.cell? ⟨w.heap.size, 1, none⟩ = some (.int .i64 a) := cell_of HG.out.op 1
  have k2 : w5.cell? ⟨w.heap.size, 2, none⟩ = some (.int .i64 b) := cell_of HG.out.op 2
  have k3 : w5.cell? ⟨w.heap.size, 3, none⟩ = some (.int .i64 n) := cell_of HG.out.op 3
  have k4 : w5.cell? ⟨w.heap.size, 4, none⟩ = some (.int .i64 x) := cell_of HG.out.op 4
  refine Lib.hid ?_
  have HTH := Lib.hid ha
  clear ha
  go_wp2_with fail
  refine (there_no A c l a 1 _ HTH.out (by omega)).mono ?_
  rintro e wt ⟨rfl, nt, rfl⟩
  go_wp2_with fail
  have F6 : Hid (Fr (fun k => (Value.slice A5 l.length c5).ownBlock = some k) w5 (w5.drewN nt)) := Lib.hid (Fr.drewN (Fr.refl _ w5) nt)
  refine (store_no B g v l a x _ (HG.out.mem6 F6.out) HTH.out).mono ?_
  rintro e w7 ⟨rfl, hm7, hf7⟩
  go_wp2
  go_ret2
  exact HG.out.copy (HG.out.row.fr (S := No) (Fr.drewN (Fr.refl _ w5) nt) (fun _ _ h => h)) F6.out hm7 hf7

set_option maxRecDepth 100000 in
set_option maxHeartbeats 6400000 in
theorem fill_no1 (B g : Nat) (v bv : Value) (l : List Int) (a b n x : Int) (w : World) (hs : Both w B g v bv l) (ha : ¬ There l a n) :
    Calls Try.prog 23 #[.pointer (some ⟨g, 0, none⟩), bv, .agg #[.int .i64 2, .int .i64 a, .int .i64 b, .int .i64 n, .int .i64 x]] w (StepPost B g v bv w) := by
  obtain ⟨A, c, rfl, hAc⟩ := hs.row.slice
  have HS := Lib.hid hs
  have HFT := Lib.hid (show ∀ k, Foot g v k → k < w.heap.size from fun k hk => (hs.mem.foot_lt k hk).2)
  have HB := Lib.hid (show B ≤ w.heap.size by have := hs.mem.foot_lt g (.inl rfl); omega)
  have hlen := hs.mem.len
  have HR := Lib.hid (fun (W : World) (hW : Fr No w W) => (hs.row.fr hW (fun _ _ h => h)).rd)
  clear hs
  go_enter Try.func23, Try.ntmps23
  go_wp2_with (at_builtin; refine app_own (v := .slice none 0 0) (l := []) (u := .slice A l.length c) rfl _ _ rfl (B := w.heap.size) rfl (Own.nil _ _) rfl (HR.out _ (by repeat (first | exact Fr.refl _ _ | apply Fr.drewN | apply Fr.drew | apply Fr.alloc))) (by simp; omega) (by simp) ?_; intro v5 w5 hown5 hgrow5 hat5; refine Hid.out ?_)
  simp only [List.nil_append] at hown5
  obtain ⟨A5, c5, rfl, hA5⟩ := hown5.slice
  have HG : Hid (Begun w w5 B g v (.slice A l.length c) l ⟨2, a, b, n, x⟩ (.slice A5 l.length c5)) := Lib.hid (by
    have hf : Fr No w w5 := Fr.grown (by repeat (first | exact Fr.refl _ _ | apply Fr.drewN | apply Fr.drew | apply Fr.alloc)) hgrow5 (fun k hk => by cases hk)
    refine ⟨HS.out.fr hf, (hgrow5.block w.heap.size (by simp) (by simp [Value.ownBlock])).trans (heap_alloc_new w _), hown5, ?_, hf, HFT.out, HB.out, fun k hk => (HS.out.row.lt k hk).2⟩
    intro k hk
    rcases hat5 with h | h
    · rw [h] at hk; cases hk
    · rw [h] at hk; injection hk with hk; simp at hk; omega)
  clear hown5 hgrow5 hat5
  have k0 : w5.cell? ⟨w.heap.size, 0, none⟩ = some (.int .i64 2) := cell_of HG.out.op 0
  have k1 : w5.cell? ⟨w.heap.size, 1, none⟩ = some (.int .i64 a) := cell_of HG.out.op 1
  have k2 : w5.cell? ⟨w.heap.size, 2, none⟩ = some (.int .i64 b) := cell_of HG.out.op 2
  have k3 : w5.cell? ⟨w.heap.size, 3, none⟩ = some (.int .i64 n) := cell_of HG.out.op 3
  have k4 : w5.cell? ⟨w.heap.size, 4, none⟩ = some (.int .i64 x) := cell_of HG.out.op 4
  refine Lib.hid ?_
  have HTH := Lib.hid ha
  clear ha
  go_wp2_with fail
  refine (there_no A c l a n _ HTH.out (by omega)).mono ?_
  rintro e wt ⟨rfl, nt, rfl⟩
  go_wp2_with fail
  go_loopw [11] (fun i wr => i = .int .i64 0 ∧ wr = w5.drewN nt) (fun _ _ => 0)
  case atStart => exact ⟨rfl, rfl⟩
  case round =>
    obtain ⟨rfl, rfl⟩ := hrel
    have F6 : Hid (Fr (fun k => (Value.slice A5 l.length c5).ownBlock = some k) w5 (w5.drewN nt)) := Lib.hid (Fr.drewN (Fr.refl _ w5) nt)
    go_wp2_with fail
    refine (fill_no B g v l a n x _ (HG.out.mem6 F6.out) HTH.out).mono ?_
    rintro e w7 ⟨rfl, hm7, hf7⟩
    go_wp2
    go_ret2
    exact HG.out.copy (HG.out.row.fr (S := No) (Fr.drewN (Fr.refl _ w5) nt) (fun _ _ h => h)) F6.out hm7 hf7

set_option maxRecDepth 100000 in
set_option maxHeartbeats 6400000 in
theorem fill_yes1 (B g : Nat) (v bv : Value) (l : List Int) (a : Nat) (b : Int) (n : Nat) (x : Int) (w : World) (hs : Both w B g v bv l) (ha : a + n ≤ l.length) :
    Calls Try.prog 23 #[.pointer (some ⟨g, 0, none⟩), bv, .agg #[.int .i64 2, .int .i64 a, .int .i64 b, .int .i64 n, .int .i64 x]] w (StepPost B g v bv w) := by
  obtain ⟨A, c, rfl, hAc⟩ := hs.row.slice
  have HS := Lib.hid hs
  have HFT := Lib.hid (show ∀ k, Foot g v k → k < w.heap.size from fun k hk => (hs.mem.foot_lt k hk).2)
  have HB := Lib.hid (show B ≤ w.heap.size by have := hs.mem.foot_lt g (.inl rfl); omega)
  have hlen := hs.mem.len
  have HR := Lib.hid (fun (W : World) (hW : Fr No w W) => (hs.row.fr hW (fun _ _ h => h)).rd)
  clear hs
  go_enter Try.func23, Try.ntmps23
  go_wp2_with (at_builtin; refine app_own (v := .slice none 0 0) (l := []) (u := .slice A l.length c) rfl _ _ rfl (B := w.heap.size) rfl (Own.nil _ _) rfl (HR.out _ (by repeat (first | exact Fr.refl _ _ | apply Fr.drewN | apply Fr.drew | apply Fr.alloc))) (by simp; omega) (by simp) ?_; intro v5 w5 hown5 hgrow5 hat5; refine Hid.out ?_)
  simp only [List.nil_append] at hown5
  obtain ⟨A5, c5, rfl, hA5⟩ := hown5.slice
  have HG : Hid (Begun w w5 B g v (.slice A l.length c) l ⟨2, a, b, n, x⟩ (.slice A5 l.length c5)) := Lib.hid (by
    have hf : Fr No w w5 := Fr.grown (by repeat (first | exact Fr.refl _ _ | apply Fr.drewN | apply Fr.drew | apply Fr.alloc)) hgrow5 (fun k hk => by cases hk)
    refine ⟨HS.out.fr hf, (hgrow5.block w.heap.size (by simp) (by simp [Value.ownBlock])).trans (heap_alloc_new w _), hown5, ?_, hf, HFT.out, HB.out, fun k hk => (HS.out.row.lt k hk).2⟩
    intro k hk
    rcases hat5 with h | h
    · rw [h] at hk; cases hk
    · rw [h] at hk; injection hk with hk; simp at hk; omega)
  clear hown5 hgrow5 hat5
  have k0 : w5.cell? ⟨w.heap.size, 0, none⟩ = some (.int .i64 2) := cell_of HG.out.op 0
  have k1 : w5.cell? ⟨w.heap.size, 1, none⟩ = some (.int .i64 a) := cell_of HG.out.op 1
  have k2 : w5.cell? ⟨w.heap.size, 2, none⟩ = some (.int .i64 b) := cell_of HG.out.op 2
  have k3 : w5.cell? ⟨w.heap.size, 3, none⟩ = some (.int .i64 n) := cell_of HG.out.op 3
  have k4 : w5.cell? ⟨w.heap.size, 4, none⟩ = some (.int .i64 x) := cell_of HG.out.op 4
  refine Lib.hid ?_
  have HTH : Hid (There l a n) := Lib.hid (by unfold There; omega)
  go_wp2_with fail
  refine (there_yes A c l a n _ HTH.out (by omega)).mono ?_
  rintro e wt ⟨rfl, nt, rfl⟩
  clear k0 k1 k2 k3 k4
  go_wp2_with fail
  go_loopw [11] (fun i wr => ∃ j : Nat, j ≤ n ∧ i = .int .i64 j ∧ Hid (Own wr w.heap.size (.slice A5 l.length c5) (fillL l a j x) ∧ Fr (fun k => (Value.slice A5 l.length c5).ownBlock = some k) w5 wr)) (fun i _ => n - (intOf i).toNat)
  case atStart => exact ⟨0, Nat.zero_le _, rfl, Lib.hid ⟨by rw [fillL_zero]; exact HG.out.row.fr (S := No) (Fr.drewN (Fr.refl _ w5) nt) (fun _ _ h => h), Fr.drewN (Fr.refl _ w5) nt⟩⟩
  case round =>
    obtain ⟨j, hj, rfl, HK⟩ := hrel
    have HO := Lib.hid (HG.out.op6 HK.out.2)
    have k1 : wr.cell? ⟨w.heap.size, 1, none⟩ = some (.int .i64 a) := cell_of HO.out 1
    have k3 : wr.cell? ⟨w.heap.size, 3, none⟩ = some (.int .i64 n) := cell_of HO.out 3
    have k4 : wr.cell? ⟨w.heap.size, 4, none⟩ = some (.int .i64 x) := cell_of HO.out 4
    by_cases hlt : j < n
    · have hfl : (fillL l a j x).length = l.length := fillL_length _ _ _ _ (by omega)
      obtain ⟨d, y, rfl, x0, f0, _⟩ := HK.out.1.cell (a + j) (by omega)
      clear hfl
      have nd : d ≠ w.heap.size := by have := HG.out.new d rfl; omega
      have i1 : (0 : Int) ≤ (a : Int) := Int.natCast_nonneg _
      have i2 : (0 : Int) ≤ (j : Int) := Int.natCast_nonneg _
      have i3 : (a : Int) + j < (l.length : Int) := by omega
      have i4 : (j : Int) < n := by omega
      go_wp2
      go_roundw
      case rel =>
        refine ⟨j + 1, by omega, by go_num, Lib.hid ⟨?_, ?_⟩⟩
        · have h2 := HK.out.1.put (d := d) (a + j) x
          rw [fillL_succ _ _ _ _ (by omega)] at h2
          exact h2
        · exact HK.out.2.setCell (p := ⟨d, a + j, none⟩) (.inl rfl) _
      case measure => simp [intOf]; omega
    · obtain rfl : j = n := by omega
      go_wp2_with fail
      refine (fill_yes B g v l a j x _ (HG.out.mem6 HK.out.2) ha).mono ?_
      rintro e w7 ⟨rfl, hm7, hf7⟩
      go_wp2
      go_ret2
      exact HG.out.copy HK.out.1 HK.out.2 hm7 hf7

end Go.Proofs.Yticlhahjgiaieaa.MemStep
