/- Proved: what one call of a script of package scutagelaw05 does to a set and to a rising list, and that they agree. -/
import Derived.Test.YtncbbphhndmibaaDoorBitLaw
namespace Go.Proofs.YtncbbphhndmibaaDoor.BitStep
open Go.RowKit Go.Proofs.YtncbbphhndmibaaDoor.H Go.Proofs.YtncbbphhndmibaaDoor.Nums Go.Proofs.YtncbbphhndmibaaDoor.BitPure Go.Proofs.YtncbbphhndmibaaDoor.Bitmap Go.Proofs.YtncbbphhndmibaaDoor.Rising Go.Proofs.YtncbbphhndmibaaDoor.BitLaw
set_option linter.unusedVariables false
set_option linter.unusedSimpArgs false
attribute [local irreducible] elems from_ nxt elemsN

/-- a set, and the rising list of its numbers, in a row apart from it; the library's table -/
structure Both (w : World) (B g n : Nat) (ws : List Nat) (vm : Value) : Prop where
  set : S w B g n ws
  mem : Own w B vm (elems ws)
  tab : Tab w
  pos : 0 < B
theorem Both.no {w w' : World} {B g n : Nat} {ws : List Nat} {vm : Value} (h : Both w B g n ws vm) (hf : Fr No w w') : Both w' B g n ws vm :=
  ⟨h.set.no hf, h.mem.fr hf (fun _ _ h => h), h.tab.no hf, h.pos⟩
theorem Both.ne {w : World} {B g n : Nat} {ws : List Nat} {vm : Value} (h : Both w B g n ws vm) : vm.ownBlock ≠ some g := own_ne_blk h.mem h.set.blk (by decide)
theorem Both.len {w : World} {B g n : Nat} {ws : List Nat} {vm : Value} (_h : Both w B g n ws vm) : (elems ws).length ≤ 2048 := elems_len ws
theorem Both.tabs {w w' : World} {B g n : Nat} {ws : List Nat} {vm : Value} (h : Both w B g n ws vm) (hf : Fr (Foot g) w w') : Tab w' :=
  h.tab.fr hf (fun h0 => by have h1 := h.set.base; have h2 := h.pos; unfold Foot at h0; omega)
def StepPost (B g n : Nat) (w : World) (x : Ending) (w' : World) : Prop :=
  ∃ vm' ws', x = .returned (.tuple #[vm', .bool true]) ∧ Both w' B g n ws' vm' ∧ Fr (Foot g) w w'
theorem alloc_cell {w : World} {p : Addr} {v : Value} (h : w.cell? p = some v) (o : Obj) : (w.alloc o).cell? p = some v := (Fr.alloc (Fr.refl No w) o).cell h (fun h => h)
theorem grown_cell {w w' : World} {r : Option Nat} {p : Addr} {v : Value} (hg : w.grownBy w' r) (h : w.cell? p = some v) (hn : ∀ k, r = some k → k ≠ p.block) : w'.cell? p = some v :=
  (Fr.grown (S := fun k => r = some k) (Fr.refl _ w) hg (fun k hk => .inl hk)).cell h (fun hk => hn _ hk rfl)
/-- nothing turns -/
theorem close0 {w wE : World} {B g n : Nat} {ws : List Nat} {vm : Value} (hb : Both w B g n ws vm) (FE : Fr No w wE) : StepPost B g n w (.returned (.tuple #[vm, .bool true])) wE :=
  ⟨vm, ws, rfl, hb.no FE, FE.mono (fun _ h => h.elim)⟩
/-- the set is as said, the list the old one -/
theorem close1 {w w1 wE : World} {B g n : Nat} {ws : List Nat} {vm : Value} (hb : Both w B g n ws vm) (F1 : Fr (Foot g) w w1) (hs : S w1 B g n ws) (FE : Fr No w1 wE) : StepPost B g n w (.returned (.tuple #[vm, .bool true])) wE :=
  ⟨vm, ws, rfl, ⟨hs.no FE, (hb.mem.fr F1 (fun k hk h => hb.ne (by rw [hk]; unfold Foot at h; rw [h]))).fr FE (fun _ _ h => h), (hb.tabs F1).no FE, hb.pos⟩, F1.trans FE (fun i (h : No i) => h.elim)⟩
/-- a new list -/
theorem close2 {w w1 wE : World} {B g n : Nat} {ws ws' : List Nat} {vm vm' : Value} (hb : Both w B g n ws vm) (F1 : Fr (Foot g) w w1) (hs : S w1 B g n ws') (hm : Own w1 B vm' (elems ws')) (FE : Fr No w1 wE) : StepPost B g n w (.returned (.tuple #[vm', .bool true])) wE :=
  ⟨vm', ws', rfl, ⟨hs.no FE, hm.fr FE (fun _ _ h => h), (hb.tabs F1).no FE, hb.pos⟩, F1.trans FE (fun i (h : No i) => h.elim)⟩

set_option maxRecDepth 100000 in
set_option maxHeartbeats 12800000 in
theorem add_has (B g n : Nat) (ws : List Nat) (vm : Value) (i : Int) (w : World) (hb : Both w B g n ws vm) (hB : B ≤ w.heap.size) (hh : hasI n ws i = true) :
    Calls Tryd.prog 26 #[.pointer (some ⟨g, 0, none⟩), .int .i64 n, vm, .agg #[.int .i64 1, .int .i64 i]] w (StepPost B g n w) := by
  obtain ⟨A, c, rfl, hAc⟩ := hb.mem.slice
  have HB := Lib.hid hb
  have HL := Lib.hid hb.len
  have HBS := Lib.hid hB
  have HIN := Lib.hid (in_eq hb.set i)
  have HNX := Lib.hid (next_law hb.set i)
  have HWO := Lib.hid (without_law hb.set i)
  obtain ⟨xs, hxs⟩ : ∃ xs, xs = elems ws := ⟨_, rfl⟩
  rw [← hxs] at HL HIN HNX HWO hAc ⊢
  obtain ⟨m, hm⟩ : ∃ m, m = xs.length := ⟨_, rfl⟩
  rw [← hm] at HL hAc ⊢
  have HM := Lib.hid hm
  have HXS := Lib.hid hxs
  have HO : Hid (Own w B (.slice A m c) xs) := Lib.hid (by rw [hm, hxs]; have := hb.mem; rw [← hxs, ← hm] at this ⊢; exact this)
  have HB2 : Hid (Both w B g n ws (.slice A m c)) := Lib.hid (by rw [hm, hxs]; exact hb)
  clear hb hm hxs HB hB
  have HH := Lib.hid hh
  have HA : Hid (addOk n ws i = false) := Lib.hid (by unfold hasI at hh; unfold addOk; simp at hh; simp [hh.2])
  have HW : Hid (addW n ws i = ws) := Lib.hid (add_none HA.out)
  clear hh
  go_enter Tryd.func26, Tryd.ntmps26
  go_upto_region 1 with (fail)
  have F0 := Lib.hid ((Fr.refl No w).alloc (.cells #[.int .i64 1, .int .i64 i] 49))
  have X0 := Lib.hid (heap_alloc_new w (.cells #[.int .i64 1, .int .i64 i] 49))
  have hz0 : (w.alloc (.cells #[.int .i64 1, .int .i64 i] 49)).heap.size = w.heap.size + 1 := by simp
  generalize w.alloc (.cells #[.int .i64 1, .int .i64 i] 49) = w0 at F0 X0 hz0 ⊢
  have b0 := cell_of X0.out 0
  have b1 := cell_of X0.out 1
  have n0 := World.new_ne w0 _ b0
  have O0 := Lib.hid (HO.out.fr F0.out (fun _ _ h => h))
  have HR0 := Lib.hid O0.out.rd
  rw [← HM.out] at HR0
  go_wp2_with fail
  with_reducible refine (Rising.in_any A m c xs i HM.out _ HR0.out (by have := HL.out; have := HM.out; omega)).mono ?_
  rintro e0 w1 ⟨rfl, q1, rfl⟩
  rw [HIN.out]
  rw [HH.out]
  go_wp2_with fail
  with_reducible refine (add_any B g n ws i _ (HB2.out.no (by repeat (first | exact F0.out | apply Fr.drewN | apply Fr.drew | apply Fr.alloc))).set).mono ?_
  rintro e2 w2 ⟨rfl, hs2, hf2⟩
  rw [HA.out]
  have S2 := Lib.hid hs2
  have F2 := Lib.hid (show Fr (Foot g) w w2 from Fr.trans (Fr.mono (S := No) (by repeat (first | exact F0.out | apply Fr.drewN | apply Fr.drew | apply Fr.alloc)) (fun _ h => h.elim)) hf2 (fun i hi => .inl hi))
  clear hs2 hf2
  go_wp2_with fail
  go_ret2
  exact close1 HB2.out F2.out (by rw [← HW.out]; exact S2.out) (Fr.refl _ _)

set_option maxRecDepth 100000 in
set_option maxHeartbeats 12800000 in
theorem add_low (B g n : Nat) (ws : List Nat) (vm : Value) (i : Int) (w : World) (hb : Both w B g n ws vm) (hB : B ≤ w.heap.size) (hh : i < 0) :
    Calls Tryd.prog 26 #[.pointer (some ⟨g, 0, none⟩), .int .i64 n, vm, .agg #[.int .i64 1, .int .i64 i]] w (StepPost B g n w) := by
  obtain ⟨A, c, rfl, hAc⟩ := hb.mem.slice
  have HB := Lib.hid hb
  have HL := Lib.hid hb.len
  have HBS := Lib.hid hB
  have HIN := Lib.hid (in_eq hb.set i)
  have HNX := Lib.hid (next_law hb.set i)
  have HWO := Lib.hid (without_law hb.set i)
  obtain ⟨xs, hxs⟩ : ∃ xs, xs = elems ws := ⟨_, rfl⟩
  rw [← hxs] at HL HIN HNX HWO hAc ⊢
  obtain ⟨m, hm⟩ : ∃ m, m = xs.length := ⟨_, rfl⟩
  rw [← hm] at HL hAc ⊢
  have HM := Lib.hid hm
  have HXS := Lib.hid hxs
  have HO : Hid (Own w B (.slice A m c) xs) := Lib.hid (by rw [hm, hxs]; have := hb.mem; rw [← hxs, ← hm] at this ⊢; exact this)
  have HB2 : Hid (Both w B g n ws (.slice A m c)) := Lib.hid (by rw [hm, hxs]; exact hb)
  clear hb hm hxs HB hB
  have HH : Hid (hasI n ws i = false) := Lib.hid (by unfold hasI; rw [decide_eq_false (show ¬ 0 ≤ i by omega)]; rfl)
  have HA : Hid (addOk n ws i = false) := Lib.hid (by unfold addOk; rw [decide_eq_false (show ¬ 0 ≤ i by omega)]; rfl)
  have HW : Hid (addW n ws i = ws) := Lib.hid (add_none HA.out)
  go_enter Tryd.func26, Tryd.ntmps26
  go_upto_region 1 with (fail)
  have F0 := Lib.hid ((Fr.refl No w).alloc (.cells #[.int .i64 1, .int .i64 i] 49))
  have X0 := Lib.hid (heap_alloc_new w (.cells #[.int .i64 1, .int .i64 i] 49))
  have hz0 : (w.alloc (.cells #[.int .i64 1, .int .i64 i] 49)).heap.size = w.heap.size + 1 := by simp
  generalize w.alloc (.cells #[.int .i64 1, .int .i64 i] 49) = w0 at F0 X0 hz0 ⊢
  have b0 := cell_of X0.out 0
  have b1 := cell_of X0.out 1
  have n0 := World.new_ne w0 _ b0
  have O0 := Lib.hid (HO.out.fr F0.out (fun _ _ h => h))
  have HR0 := Lib.hid O0.out.rd
  rw [← HM.out] at HR0
  go_wp2_with fail
  with_reducible refine (Rising.in_any A m c xs i HM.out _ HR0.out (by have := HL.out; have := HM.out; omega)).mono ?_
  rintro e0 w1 ⟨rfl, q1, rfl⟩
  rw [HIN.out]
  rw [HH.out]
  go_wp2_with fail
  with_reducible refine (add_any B g n ws i _ (HB2.out.no (by repeat (first | exact F0.out | apply Fr.drewN | apply Fr.drew | apply Fr.alloc))).set).mono ?_
  rintro e2 w2 ⟨rfl, hs2, hf2⟩
  rw [HA.out]
  have S2 := Lib.hid hs2
  have F2 := Lib.hid (show Fr (Foot g) w w2 from Fr.trans (Fr.mono (S := No) (by repeat (first | exact F0.out | apply Fr.drewN | apply Fr.drew | apply Fr.alloc)) (fun _ h => h.elim)) hf2 (fun i hi => .inl hi))
  clear hs2 hf2
  go_wp2_with fail
  go_ret2
  exact close1 HB2.out F2.out (by rw [← HW.out]; exact S2.out) (Fr.refl _ _)

set_option maxRecDepth 100000 in
set_option maxHeartbeats 12800000 in
theorem add_high (B g n : Nat) (ws : List Nat) (vm : Value) (i : Int) (w : World) (hb : Both w B g n ws vm) (hB : B ≤ w.heap.size) (hh : (n : Int) ≤ i) :
    Calls Tryd.prog 26 #[.pointer (some ⟨g, 0, none⟩), .int .i64 n, vm, .agg #[.int .i64 1, .int .i64 i]] w (StepPost B g n w) := by
  obtain ⟨A, c, rfl, hAc⟩ := hb.mem.slice
  have HB := Lib.hid hb
  have HL := Lib.hid hb.len
  have HBS := Lib.hid hB
  have HIN := Lib.hid (in_eq hb.set i)
  have HNX := Lib.hid (next_law hb.set i)
  have HWO := Lib.hid (without_law hb.set i)
  obtain ⟨xs, hxs⟩ : ∃ xs, xs = elems ws := ⟨_, rfl⟩
  rw [← hxs] at HL HIN HNX HWO hAc ⊢
  obtain ⟨m, hm⟩ : ∃ m, m = xs.length := ⟨_, rfl⟩
  rw [← hm] at HL hAc ⊢
  have HM := Lib.hid hm
  have HXS := Lib.hid hxs
  have HO : Hid (Own w B (.slice A m c) xs) := Lib.hid (by rw [hm, hxs]; have := hb.mem; rw [← hxs, ← hm] at this ⊢; exact this)
  have HB2 : Hid (Both w B g n ws (.slice A m c)) := Lib.hid (by rw [hm, hxs]; exact hb)
  clear hb hm hxs HB hB
  have HH : Hid (hasI n ws i = false) := Lib.hid (by unfold hasI; rw [decide_eq_false (show ¬ i < (n : Int) by omega)]; simp)
  have HA : Hid (addOk n ws i = false) := Lib.hid (by unfold addOk; rw [decide_eq_false (show ¬ i < (n : Int) by omega)]; simp)
  have HW : Hid (addW n ws i = ws) := Lib.hid (add_none HA.out)
  have i0 : (0 : Int) ≤ (n : Int) := Int.natCast_nonneg _
  have i2 : (0 : Int) ≤ i := by omega
  have g2 : decide (i < (n : Int)) = false := by simp; omega
  have g1 : decide (0 ≤ i) = true := by simp; omega
  clear hh i2
  go_enter Tryd.func26, Tryd.ntmps26
  go_upto_region 1 with (fail)
  have F0 := Lib.hid ((Fr.refl No w).alloc (.cells #[.int .i64 1, .int .i64 i] 49))
  have X0 := Lib.hid (heap_alloc_new w (.cells #[.int .i64 1, .int .i64 i] 49))
  have hz0 : (w.alloc (.cells #[.int .i64 1, .int .i64 i] 49)).heap.size = w.heap.size + 1 := by simp
  generalize w.alloc (.cells #[.int .i64 1, .int .i64 i] 49) = w0 at F0 X0 hz0 ⊢
  have b0 := cell_of X0.out 0
  have b1 := cell_of X0.out 1
  have n0 := World.new_ne w0 _ b0
  have O0 := Lib.hid (HO.out.fr F0.out (fun _ _ h => h))
  have HR0 := Lib.hid O0.out.rd
  rw [← HM.out] at HR0
  go_wp2_with fail
  with_reducible refine (Rising.in_any A m c xs i HM.out _ HR0.out (by have := HL.out; have := HM.out; omega)).mono ?_
  rintro e0 w1 ⟨rfl, q1, rfl⟩
  rw [HIN.out]
  rw [HH.out]
  go_wp2_with fail
  with_reducible refine (add_any B g n ws i _ (HB2.out.no (by repeat (first | exact F0.out | apply Fr.drewN | apply Fr.drew | apply Fr.alloc))).set).mono ?_
  rintro e2 w2 ⟨rfl, hs2, hf2⟩
  rw [HA.out]
  have S2 := Lib.hid hs2
  have F2 := Lib.hid (show Fr (Foot g) w w2 from Fr.trans (Fr.mono (S := No) (by repeat (first | exact F0.out | apply Fr.drewN | apply Fr.drew | apply Fr.alloc)) (fun _ h => h.elim)) hf2 (fun i hi => .inl hi))
  clear hs2 hf2
  go_wp2_with fail
  go_ret2
  exact close1 HB2.out F2.out (by rw [← HW.out]; exact S2.out) (Fr.refl _ _)

set_option maxRecDepth 100000 in
set_option maxHeartbeats 12800000 in
theorem add_yes_ (B g n : Nat) (ws : List Nat) (vm : Value) (i : Int) (w : World) (hb : Both w B g n ws vm) (hB : B ≤ w.heap.size) (hi0 : 0 ≤ i) (hi1 : i < (n : Int)) (hh : has ws i.toNat = false) :
    Calls Tryd.prog 26 #[.pointer (some ⟨g, 0, none⟩), .int .i64 n, vm, .agg #[.int .i64 1, .int .i64 i]] w (StepPost B g n w) := by
  obtain ⟨A, c, rfl, hAc⟩ := hb.mem.slice
  have HB := Lib.hid hb
  have HL := Lib.hid hb.len
  have HBS := Lib.hid hB
  have HIN := Lib.hid (in_eq hb.set i)
  have HNX := Lib.hid (next_law hb.set i)
  have HWO := Lib.hid (without_law hb.set i)
  obtain ⟨xs, hxs⟩ : ∃ xs, xs = elems ws := ⟨_, rfl⟩
  rw [← hxs] at HL HIN HNX HWO hAc ⊢
  obtain ⟨m, hm⟩ : ∃ m, m = xs.length := ⟨_, rfl⟩
  rw [← hm] at HL hAc ⊢
  have HM := Lib.hid hm
  have HXS := Lib.hid hxs
  have HO : Hid (Own w B (.slice A m c) xs) := Lib.hid (by rw [hm, hxs]; have := hb.mem; rw [← hxs, ← hm] at this ⊢; exact this)
  have HB2 : Hid (Both w B g n ws (.slice A m c)) := Lib.hid (by rw [hm, hxs]; exact hb)
  clear hb hm hxs HB hB
  have HH : Hid (hasI n ws i = false) := Lib.hid (by unfold hasI; rw [hh]; simp)
  have ha : addOk n ws i = true := by unfold addOk; rw [decide_eq_true hi0, decide_eq_true hi1, hh]; rfl
  have HA := Lib.hid ha
  have HW := Lib.hid (with_law HB2.out.set i ha)
  rw [← HXS.out] at HW
  have HR := Lib.hid HO.out.rd
  have g2 : decide (i < (n : Int)) = true := by simp; omega
  have g1 : decide (0 ≤ i) = true := by simp; omega
  clear hh ha hi0 hi1
  go_enter Tryd.func26, Tryd.ntmps26
  go_upto_region 1 with (fail)
  have F0 := Lib.hid ((Fr.refl No w).alloc (.cells #[.int .i64 1, .int .i64 i] 49))
  have X0 := Lib.hid (heap_alloc_new w (.cells #[.int .i64 1, .int .i64 i] 49))
  have hz0 : (w.alloc (.cells #[.int .i64 1, .int .i64 i] 49)).heap.size = w.heap.size + 1 := by simp
  generalize w.alloc (.cells #[.int .i64 1, .int .i64 i] 49) = w0 at F0 X0 hz0 ⊢
  have b0 := cell_of X0.out 0
  have b1 := cell_of X0.out 1
  have n0 := World.new_ne w0 _ b0
  have O0 := Lib.hid (HO.out.fr F0.out (fun _ _ h => h))
  have HR0 := Lib.hid O0.out.rd
  rw [← HM.out] at HR0
  go_wp2_with fail
  with_reducible refine (Rising.in_any A m c xs i HM.out _ HR0.out (by have := HL.out; have := HM.out; omega)).mono ?_
  rintro e0 w1 ⟨rfl, q1, rfl⟩
  rw [HIN.out]
  rw [HH.out]
  have C0 : Hid (w0.cell? ⟨w.heap.size, 1, none⟩ = some (.int .i64 i)) := Lib.hid b1
  have NG := Lib.hid (show ¬ Foot g w.heap.size from fun h => by have := HB2.out.set.lt; unfold Foot at h; omega)
  go_wp2_with (at_builtin; refine app_own (v := .slice none 0 0) (l := []) (m := xs) rfl _ _ rfl (B := w.heap.size) rfl (Own.nil _ _) rfl ((HO.out.fr (by repeat (first | exact F0.out | apply Fr.drewN | apply Fr.drew | apply Fr.alloc)) (fun _ _ h => h)).rd) (by have := HL.out; have := HM.out; simp; omega) (by have := F0.out.size; simp; omega) ?_; intro v5 w5 h1 h2 h3; refine Hid.out ?_)
  have O5 : Hid (Own w5 w.heap.size v5 xs) := Lib.hid (by simpa using h1)
  have F5 := Lib.hid (show Fr No w0 w5 from Fr.grown (by repeat (first | exact Fr.refl _ _ | apply Fr.drewN | apply Fr.drew | apply Fr.alloc)) h2 (fun j hj => by cases hj))
  have NB : Hid (∀ k, v5.ownBlock = some k → k ≠ w.heap.size) := Lib.hid (fun k hk => by
    rcases h3 with h3 | h3
    · rw [h3] at hk; cases hk
    · rw [h3] at hk; injection hk with hk; have := hz0; simp at hk; omega)
  clear h1 h2 h3
  have C5 := Lib.hid (F5.out.cell C0.out (fun h => h))
  have b15 := C5.out
  obtain ⟨A5, c5, rfl, _⟩ := O5.out.slice
  rw [← HM.out] at O5 NB ⊢
  have X5 := Lib.hid (heap_alloc_new w5 (.cells #[.int .i64 i] 3))
  refine Lib.hid ?_
  go_wp2_with (at_builtin; refine app_one (l := xs) (y := i) rfl _ _ rfl rfl (O5.out.fr (Fr.alloc (Fr.refl No _) _) (fun _ _ h => h)) rfl rfl X5.out (by decide) (by have := HL.out; have := HM.out; omega) (by have := F0.out.size; have := F5.out.size; simp; omega) ?_; intro v6 w6 h1 h2 h3; refine Hid.out ?_)
  have F6 := Lib.hid (show Fr No w w6 from Fr.grown ((F0.out.trans F5.out (fun i (h : No i) => h.elim)).alloc _) h2 (fun j hj => .inr (O5.out.lt j hj).1))
  have C6 := Lib.hid (show w6.cell? ⟨w.heap.size, 1, none⟩ = some (.int .i64 i) by
    have hne : ∀ k, (Value.slice A5 m c5).ownBlock = some k → k ≠ w.heap.size := fun k hk => NB.out k hk
    have h4 := alloc_cell C5.out (.cells #[.int .i64 i] 3)
    exact grown_cell h2 h4 (fun k hk => hne k hk))
  have O6 := Lib.hid h1
  clear h1 h2 h3
  have b16 := C6.out
  obtain ⟨ys, hys⟩ : ∃ ys, ys = xs ++ [i] := ⟨_, rfl⟩
  rw [← hys] at O6 HW
  have HYL : Hid (ys.length ≤ 2049) := Lib.hid (by rw [hys, List.length_append]; have := HL.out; have := HM.out; simp; omega)
  clear hys
  obtain ⟨A6, c6, rfl, _⟩ := O6.out.slice
  obtain ⟨m6, hm6⟩ : ∃ m6, m6 = ys.length := ⟨_, rfl⟩
  rw [← hm6] at O6 ⊢
  have HM6 := Lib.hid hm6
  clear hm6
  have HR6 : Hid (∀ W, Fr No w6 W → Rd W (.slice A6 m6 c6) m6 1 (ints ys)) := Lib.hid (fun W hW => by have h9 := (O6.out.fr hW (fun _ _ h => h)).rd; rw [← HM6.out] at h9; exact h9)
  refine Lib.hid ?_
  go_wp2_with fail
  go_region_held3 (fun W => W.cell? ⟨w.heap.size, 1, none⟩ = some (.int .i64 i)) ((first | with_reducible assumption | (with_reducible exact F8c.out.cell C6.out NG.out) | (with_reducible exact F7c.out.cell C6.out (fun h => h)) | (go_keep; done)))
    ((first
      | (go_at_call 9; refine (rising_any A6 m6 c6 ys HM6.out _ (by exact HR6.out _ (by repeat (first | exact Fr.refl _ _ | apply Fr.drewN | apply Fr.drew | apply Fr.alloc))) (by have := HYL.out; omega)).mono ?_; rintro e7 w7 ⟨v7, rfl, hown7, hb7⟩; have F7c := Lib.hid (show Fr No w6 w7 from Fr.then_below (by repeat (first | exact Fr.refl _ _ | apply Fr.drewN | apply Fr.drew | apply Fr.alloc)) hb7); have O7 := Lib.hid hown7; have B7 := Lib.hid hb7.size; clear hown7 hb7)
      | (go_at_call 8; refine (add_any B g n ws i _ ((HB2.out.no (F6.out.trans (by repeat (first | exact F7c.out | apply Fr.drewN | apply Fr.drew | apply Fr.alloc)) (fun i (h : No i) => h.elim))).set)).mono ?_; rintro e8 w8 ⟨rfl, hs8, hf8⟩; have F8c := Lib.hid (show Fr (Foot g) w6 w8 from Fr.trans (Fr.mono (S := No) (by repeat (first | exact F7c.out | apply Fr.drewN | apply Fr.drew | apply Fr.alloc)) (fun _ h => h.elim)) hf8 (fun i hi => .inl hi)); have S8 := Lib.hid hs8; have F8 := Lib.hid (show Fr (Foot g) w7 w8 from Fr.trans (by repeat (first | exact Fr.refl _ _ | apply Fr.drewN | apply Fr.drew | apply Fr.alloc)) hf8 (fun i hi => .inl hi)); clear hs8 hf8; rw [HA.out])))
  all_goals
    go_wp2_with fail
    go_ret2
    refine close2 HB2.out ((F6.out.mono (fun _ h => h.elim)).trans F8c.out (fun i hi => .inl hi)) S8.out ?_ (Fr.refl _ _)
    rw [← HW.out]
    refine (O7.out.fr F8.out (fun k hk h => ?_)).lower (by have h1 := HBS.out; have h2 := F6.out.size; have h3 := (show w6.heap.size ≤ _ from Nat.le_refl _); simp; omega)
    have h1 := (O7.out.lt k hk).1
    have h2 := HB2.out.set.lt
    have h3 := F6.out.size
    unfold Foot at h
    simp at h1
    omega

set_option maxRecDepth 100000 in
set_option maxHeartbeats 12800000 in
theorem remove_2 (B g n : Nat) (ws : List Nat) (vm : Value) (i : Int) (w : World) (hb : Both w B g n ws vm) (hB : B ≤ w.heap.size) :
    Calls Tryd.prog 26 #[.pointer (some ⟨g, 0, none⟩), .int .i64 n, vm, .agg #[.int .i64 2, .int .i64 i]] w (StepPost B g n w) := by
  obtain ⟨A, c, rfl, hAc⟩ := hb.mem.slice
  have HB := Lib.hid hb
  have HL := Lib.hid hb.len
  have HBS := Lib.hid hB
  have HIN := Lib.hid (in_eq hb.set i)
  have HNX := Lib.hid (next_law hb.set i)
  have HWO := Lib.hid (without_law hb.set i)
  obtain ⟨xs, hxs⟩ : ∃ xs, xs = elems ws := ⟨_, rfl⟩
  rw [← hxs] at HL HIN HNX HWO hAc ⊢
  obtain ⟨m, hm⟩ : ∃ m, m = xs.length := ⟨_, rfl⟩
  rw [← hm] at HL hAc ⊢
  have HM := Lib.hid hm
  have HXS := Lib.hid hxs
  have HO : Hid (Own w B (.slice A m c) xs) := Lib.hid (by rw [hm, hxs]; have := hb.mem; rw [← hxs, ← hm] at this ⊢; exact this)
  have HB2 : Hid (Both w B g n ws (.slice A m c)) := Lib.hid (by rw [hm, hxs]; exact hb)
  clear hb hm hxs HB hB
  go_enter Tryd.func26, Tryd.ntmps26
  go_upto_region 1 with (fail)
  have F0 := Lib.hid ((Fr.refl No w).alloc (.cells #[.int .i64 2, .int .i64 i] 49))
  have X0 := Lib.hid (heap_alloc_new w (.cells #[.int .i64 2, .int .i64 i] 49))
  have hz0 : (w.alloc (.cells #[.int .i64 2, .int .i64 i] 49)).heap.size = w.heap.size + 1 := by simp
  generalize w.alloc (.cells #[.int .i64 2, .int .i64 i] 49) = w0 at F0 X0 hz0 ⊢
  have b0 := cell_of X0.out 0
  have b1 := cell_of X0.out 1
  have n0 := World.new_ne w0 _ b0
  have O0 := Lib.hid (HO.out.fr F0.out (fun _ _ h => h))
  have HR0 := Lib.hid O0.out.rd
  rw [← HM.out] at HR0
  go_wp2_with fail
  with_reducible refine (Rising.in_any A m c xs i HM.out _ HR0.out (by have := HL.out; have := HM.out; omega)).mono ?_
  rintro e0 w1 ⟨rfl, q1, rfl⟩
  rw [HIN.out]
  obtain ⟨hv, hhv⟩ : ∃ b, b = hasI n ws i := ⟨_, rfl⟩
  rw [← hhv]
  have HV := Lib.hid hhv
  have gv : (hv == hv) = true := by simp
  clear hhv
  have C0 : Hid (w0.cell? ⟨w.heap.size, 1, none⟩ = some (.int .i64 i)) := Lib.hid b1
  have NG := Lib.hid (show ¬ Foot g w.heap.size from fun h => by have := HB2.out.set.lt; unfold Foot at h; omega)
  have HR1 : Hid (∀ W, Fr No w0 W → Rd W (.slice A m c) m 1 (ints xs)) := Lib.hid (fun W hW => by have h9 := (O0.out.fr hW (fun _ _ h => h)).rd; rw [← HM.out] at h9; exact h9)
  go_wp2_with fail
  go_region_held3 (fun W => W.cell? ⟨w.heap.size, 1, none⟩ = some (.int .i64 i)) ((first | with_reducible assumption | (with_reducible exact F8c.out.cell C0.out NG.out) | (with_reducible exact F7c.out.cell C0.out (fun h => h)) | (go_keep; done)))
    ((first
      | (go_at_call 27; refine (without_any A m c xs HM.out i _ (HR1.out _ (by repeat (first | exact Fr.refl _ _ | apply Fr.drewN | apply Fr.drew | apply Fr.alloc))) (by have := HL.out; have := HM.out; omega)).mono ?_; rintro e7 w7 ⟨v7, rfl, hown7, hb7⟩; have F7c := Lib.hid (show Fr No w0 w7 from Fr.then_below (by repeat (first | exact Fr.refl _ _ | apply Fr.drewN | apply Fr.drew | apply Fr.alloc)) hb7); have O7 := Lib.hid hown7; have B7 := Lib.hid hb7.size; clear hown7 hb7)
      | (go_at_call 19; refine (remove_any B g n ws i _ ((HB2.out.no (F0.out.trans (by repeat (first | exact F7c.out | apply Fr.drewN | apply Fr.drew | apply Fr.alloc)) (fun i (h : No i) => h.elim))).set)).mono ?_; rintro e8 w8 ⟨rfl, hs8, hf8⟩; have F8c := Lib.hid (show Fr (Foot g) w0 w8 from Fr.trans (Fr.mono (S := No) (by repeat (first | exact F7c.out | apply Fr.drewN | apply Fr.drew | apply Fr.alloc)) (fun _ h => h.elim)) hf8 (fun i hi => .inl hi)); have S8 := Lib.hid hs8; have F8 := Lib.hid (show Fr (Foot g) w7 w8 from Fr.trans (by repeat (first | exact Fr.refl _ _ | apply Fr.drewN | apply Fr.drew | apply Fr.alloc)) hf8 (fun i hi => .inl hi)); clear hs8 hf8; rw [← HV.out])))
  all_goals
    go_wp2_with fail
    go_ret2
    refine close2 HB2.out ((F0.out.mono (fun _ h => h.elim)).trans F8c.out (fun i hi => .inl hi)) S8.out ?_ (Fr.refl _ _)
    rw [← HWO.out]
    refine (O7.out.fr F8.out (fun k hk h => ?_)).lower (by have h1 := HBS.out; have h2 := F0.out.size; simp; omega)
    have h1 := (O7.out.lt k hk).1
    have h2 := HB2.out.set.lt
    have h3 := F0.out.size
    unfold Foot at h
    simp at h1
    omega

set_option maxRecDepth 100000 in
set_option maxHeartbeats 12800000 in
theorem clear_3 (B g n : Nat) (ws : List Nat) (vm : Value) (i : Int) (w : World) (hb : Both w B g n ws vm) (hB : B ≤ w.heap.size) :
    Calls Tryd.prog 26 #[.pointer (some ⟨g, 0, none⟩), .int .i64 n, vm, .agg #[.int .i64 3, .int .i64 i]] w (StepPost B g n w) := by
  obtain ⟨A, c, rfl, hAc⟩ := hb.mem.slice
  have HB := Lib.hid hb
  have HL := Lib.hid hb.len
  have HBS := Lib.hid hB
  have HIN := Lib.hid (in_eq hb.set i)
  have HNX := Lib.hid (next_law hb.set i)
  have HWO := Lib.hid (without_law hb.set i)
  obtain ⟨xs, hxs⟩ : ∃ xs, xs = elems ws := ⟨_, rfl⟩
  rw [← hxs] at HL HIN HNX HWO hAc ⊢
  obtain ⟨m, hm⟩ : ∃ m, m = xs.length := ⟨_, rfl⟩
  rw [← hm] at HL hAc ⊢
  have HM := Lib.hid hm
  have HXS := Lib.hid hxs
  have HO : Hid (Own w B (.slice A m c) xs) := Lib.hid (by rw [hm, hxs]; have := hb.mem; rw [← hxs, ← hm] at this ⊢; exact this)
  have HB2 : Hid (Both w B g n ws (.slice A m c)) := Lib.hid (by rw [hm, hxs]; exact hb)
  clear hb hm hxs HB hB
  go_enter Tryd.func26, Tryd.ntmps26
  go_upto_region 1 with (fail)
  have F0 := Lib.hid ((Fr.refl No w).alloc (.cells #[.int .i64 3, .int .i64 i] 49))
  have X0 := Lib.hid (heap_alloc_new w (.cells #[.int .i64 3, .int .i64 i] 49))
  have hz0 : (w.alloc (.cells #[.int .i64 3, .int .i64 i] 49)).heap.size = w.heap.size + 1 := by simp
  generalize w.alloc (.cells #[.int .i64 3, .int .i64 i] 49) = w0 at F0 X0 hz0 ⊢
  have b0 := cell_of X0.out 0
  have b1 := cell_of X0.out 1
  have n0 := World.new_ne w0 _ b0
  have O0 := Lib.hid (HO.out.fr F0.out (fun _ _ h => h))
  have HR0 := Lib.hid O0.out.rd
  rw [← HM.out] at HR0
  go_wp2_with fail
  with_reducible refine (Rising.in_any A m c xs i HM.out _ HR0.out (by have := HL.out; have := HM.out; omega)).mono ?_
  rintro e0 w1 ⟨rfl, q1, rfl⟩
  rw [HIN.out]
  obtain ⟨hv, hhv⟩ : ∃ b, b = hasI n ws i := ⟨_, rfl⟩
  rw [← hhv]
  have HV := Lib.hid hhv
  have gv : (hv == hv) = true := by simp
  clear hhv
  have C0 : Hid (w0.cell? ⟨w.heap.size, 1, none⟩ = some (.int .i64 i)) := Lib.hid b1
  have NG := Lib.hid (show ¬ Foot g w.heap.size from fun h => by have := HB2.out.set.lt; unfold Foot at h; omega)
  go_wp2_with fail
  with_reducible refine (clear_any B g n ws _ (HB2.out.no (by repeat (first | exact F0.out | apply Fr.drewN | apply Fr.drew | apply Fr.alloc))).set).mono ?_
  rintro e2 w2 ⟨rfl, hs2, hf2⟩
  have S2 := Lib.hid hs2
  have F2 := Lib.hid (show Fr (Foot g) w w2 from Fr.trans (Fr.mono (S := No) (by repeat (first | exact F0.out | apply Fr.drewN | apply Fr.drew | apply Fr.alloc)) (fun _ h => h.elim)) hf2 (fun i hi => .inl hi))
  clear hs2 hf2
  go_wp2_with fail
  go_ret2
  exact close2 HB2.out F2.out S2.out (by rw [w0_elems]; exact Own.nil _ _) (Fr.refl _ _)

set_option maxRecDepth 100000 in
set_option maxHeartbeats 12800000 in
theorem next_4 (B g n : Nat) (ws : List Nat) (vm : Value) (i : Int) (w : World) (hb : Both w B g n ws vm) (hB : B ≤ w.heap.size) :
    Calls Tryd.prog 26 #[.pointer (some ⟨g, 0, none⟩), .int .i64 n, vm, .agg #[.int .i64 4, .int .i64 i]] w (StepPost B g n w) := by
  obtain ⟨A, c, rfl, hAc⟩ := hb.mem.slice
  have HB := Lib.hid hb
  have HL := Lib.hid hb.len
  have HBS := Lib.hid hB
  have HIN := Lib.hid (in_eq hb.set i)
  have HNX := Lib.hid (next_law hb.set i)
  have HWO := Lib.hid (without_law hb.set i)
  obtain ⟨xs, hxs⟩ : ∃ xs, xs = elems ws := ⟨_, rfl⟩
  rw [← hxs] at HL HIN HNX HWO hAc ⊢
  obtain ⟨m, hm⟩ : ∃ m, m = xs.length := ⟨_, rfl⟩
  rw [← hm] at HL hAc ⊢
  have HM := Lib.hid hm
  have HXS := Lib.hid hxs
  have HO : Hid (Own w B (.slice A m c) xs) := Lib.hid (by rw [hm, hxs]; have := hb.mem; rw [← hxs, ← hm] at this ⊢; exact this)
  have HB2 : Hid (Both w B g n ws (.slice A m c)) := Lib.hid (by rw [hm, hxs]; exact hb)
  clear hb hm hxs HB hB
  go_enter Tryd.func26, Tryd.ntmps26
  go_upto_region 1 with (fail)
  have F0 := Lib.hid ((Fr.refl No w).alloc (.cells #[.int .i64 4, .int .i64 i] 49))
  have X0 := Lib.hid (heap_alloc_new w (.cells #[.int .i64 4, .int .i64 i] 49))
  have hz0 : (w.alloc (.cells #[.int .i64 4, .int .i64 i] 49)).heap.size = w.heap.size + 1 := by simp
  generalize w.alloc (.cells #[.int .i64 4, .int .i64 i] 49) = w0 at F0 X0 hz0 ⊢
  have b0 := cell_of X0.out 0
  have b1 := cell_of X0.out 1
  have n0 := World.new_ne w0 _ b0
  have O0 := Lib.hid (HO.out.fr F0.out (fun _ _ h => h))
  have HR0 := Lib.hid O0.out.rd
  rw [← HM.out] at HR0
  go_wp2_with fail
  with_reducible refine (Rising.in_any A m c xs i HM.out _ HR0.out (by have := HL.out; have := HM.out; omega)).mono ?_
  rintro e0 w1 ⟨rfl, q1, rfl⟩
  rw [HIN.out]
  obtain ⟨hv, hhv⟩ : ∃ b, b = hasI n ws i := ⟨_, rfl⟩
  rw [← hhv]
  have HV := Lib.hid hhv
  have gv : (hv == hv) = true := by simp
  clear hhv
  have C0 : Hid (w0.cell? ⟨w.heap.size, 1, none⟩ = some (.int .i64 i)) := Lib.hid b1
  have NG := Lib.hid (show ¬ Foot g w.heap.size from fun h => by have := HB2.out.set.lt; unfold Foot at h; omega)
  obtain ⟨nv, hnv⟩ : ∃ b, b = nextI n ws i := ⟨_, rfl⟩
  have HNV := Lib.hid hnv
  rw [← hnv] at HNX
  have gn : (nv == nv) = true := by simp
  clear hnv
  have HR1 : Hid (∀ W, Fr No w0 W → Rd W (.slice A m c) m 1 (ints xs)) := Lib.hid (fun W hW => by have h9 := (O0.out.fr hW (fun _ _ h => h)).rd; rw [← HM.out] at h9; exact h9)
  go_wp2_with fail
  go_region_held3 (fun W => W.cell? ⟨w.heap.size, 1, none⟩ = some (.int .i64 i)) ((first | with_reducible assumption | (with_reducible exact F8x.out.cell C0.out (fun h => h)) | (with_reducible exact F7c.out.cell C0.out (fun h => h)) | (go_keep; done)))
    ((first
      | (go_at_call 10; refine (next_any B g n ws i _ (HB2.out.no (by repeat (first | exact F0.out | apply Fr.drewN | apply Fr.drew | apply Fr.alloc))).set (HB2.out.no (by repeat (first | exact F0.out | apply Fr.drewN | apply Fr.drew | apply Fr.alloc))).tab).mono ?_; rintro e7 w7 ⟨rfl, q7, hw7⟩; have F7c := Lib.hid (show Fr No w0 w7 from drewN_fr (by repeat (first | exact Fr.refl _ _ | apply Fr.drewN | apply Fr.drew | apply Fr.alloc)) hw7); clear hw7; rw [← HNV.out])
      | (go_at_call 28; refine (nextL_any A m c xs HM.out i _ (HR1.out _ (by repeat (first | exact F7c.out | apply Fr.drewN | apply Fr.drew | apply Fr.alloc))) (by have := HL.out; have := HM.out; omega)).mono ?_; rintro e8 w8 ⟨rfl, q8, hw8⟩; have F8x := Lib.hid (show Fr No w0 w8 from drewN_fr (by repeat (first | exact F7c.out | apply Fr.drewN | apply Fr.drew | apply Fr.alloc)) hw8); clear hw8; rw [HNX.out])))
  all_goals
    go_wp2_with fail
    go_ret2
    exact close0 HB2.out (F0.out.trans F8x.out (fun i (h : No i) => h.elim))

set_option maxRecDepth 100000 in
set_option maxHeartbeats 12800000 in
theorem has_5 (B g n : Nat) (ws : List Nat) (vm : Value) (kd : Int) (i : Int) (w : World) (hb : Both w B g n ws vm) (hB : B ≤ w.heap.size) (h1 : kd ≠ 1) (h2 : kd ≠ 2) (h3 : kd ≠ 3) (h4 : kd ≠ 4) :
    Calls Tryd.prog 26 #[.pointer (some ⟨g, 0, none⟩), .int .i64 n, vm, .agg #[.int .i64 kd, .int .i64 i]] w (StepPost B g n w) := by
  obtain ⟨A, c, rfl, hAc⟩ := hb.mem.slice
  have HB := Lib.hid hb
  have HL := Lib.hid hb.len
  have HBS := Lib.hid hB
  have HIN := Lib.hid (in_eq hb.set i)
  have HNX := Lib.hid (next_law hb.set i)
  have HWO := Lib.hid (without_law hb.set i)
  obtain ⟨xs, hxs⟩ : ∃ xs, xs = elems ws := ⟨_, rfl⟩
  rw [← hxs] at HL HIN HNX HWO hAc ⊢
  obtain ⟨m, hm⟩ : ∃ m, m = xs.length := ⟨_, rfl⟩
  rw [← hm] at HL hAc ⊢
  have HM := Lib.hid hm
  have HXS := Lib.hid hxs
  have HO : Hid (Own w B (.slice A m c) xs) := Lib.hid (by rw [hm, hxs]; have := hb.mem; rw [← hxs, ← hm] at this ⊢; exact this)
  have HB2 : Hid (Both w B g n ws (.slice A m c)) := Lib.hid (by rw [hm, hxs]; exact hb)
  clear hb hm hxs HB hB
  have e1 : (kd == 1) = false := by simpa using h1
  have e2 : (kd == 2) = false := by simpa using h2
  have e3 : (kd == 3) = false := by simpa using h3
  have e4 : (kd == 4) = false := by simpa using h4
  clear h1 h2 h3 h4
  go_enter Tryd.func26, Tryd.ntmps26
  go_upto_region 1 with (fail)
  have F0 := Lib.hid ((Fr.refl No w).alloc (.cells #[.int .i64 kd, .int .i64 i] 49))
  have X0 := Lib.hid (heap_alloc_new w (.cells #[.int .i64 kd, .int .i64 i] 49))
  have hz0 : (w.alloc (.cells #[.int .i64 kd, .int .i64 i] 49)).heap.size = w.heap.size + 1 := by simp
  generalize w.alloc (.cells #[.int .i64 kd, .int .i64 i] 49) = w0 at F0 X0 hz0 ⊢
  have b0 := cell_of X0.out 0
  have b1 := cell_of X0.out 1
  have n0 := World.new_ne w0 _ b0
  have O0 := Lib.hid (HO.out.fr F0.out (fun _ _ h => h))
  have HR0 := Lib.hid O0.out.rd
  rw [← HM.out] at HR0
  go_wp2_with fail
  with_reducible refine (Rising.in_any A m c xs i HM.out _ HR0.out (by have := HL.out; have := HM.out; omega)).mono ?_
  rintro e0 w1 ⟨rfl, q1, rfl⟩
  rw [HIN.out]
  obtain ⟨hv, hhv⟩ : ∃ b, b = hasI n ws i := ⟨_, rfl⟩
  rw [← hhv]
  have HV := Lib.hid hhv
  have gv : (hv == hv) = true := by simp
  clear hhv
  have C0 : Hid (w0.cell? ⟨w.heap.size, 1, none⟩ = some (.int .i64 i)) := Lib.hid b1
  have NG := Lib.hid (show ¬ Foot g w.heap.size from fun h => by have := HB2.out.set.lt; unfold Foot at h; omega)
  go_wp2_with fail
  with_reducible refine (has_any B g n ws i _ (HB2.out.no (by repeat (first | exact F0.out | apply Fr.drewN | apply Fr.drew | apply Fr.alloc))).set).mono ?_
  rintro e2 w2 ⟨rfl, q2, hw2⟩
  rw [← HV.out]
  have F2 := Lib.hid (show Fr No w w2 from drewN_fr (by repeat (first | exact F0.out | apply Fr.drewN | apply Fr.drew | apply Fr.alloc)) hw2)
  clear hw2
  go_wp2_with fail
  go_ret2
  exact close0 HB2.out F2.out
theorem step_any (B g n : Nat) (ws : List Nat) (vm : Value) (kd i : Int) (w : World) (hb : Both w B g n ws vm) (hB : B ≤ w.heap.size) :
    Calls Tryd.prog 26 #[.pointer (some ⟨g, 0, none⟩), .int .i64 n, vm, .agg #[.int .i64 kd, .int .i64 i]] w (StepPost B g n w) := by
  by_cases h1 : kd = 1
  · subst h1
    cases hh : hasI n ws i with
    | true => exact add_has B g n ws vm i w hb hB hh
    | false =>
      by_cases a1 : i < 0
      · exact add_low B g n ws vm i w hb hB a1
      by_cases a2 : (n : Int) ≤ i
      · exact add_high B g n ws vm i w hb hB a2
      refine add_yes_ B g n ws vm i w hb hB (by omega) (by omega) ?_
      unfold hasI at hh
      rw [decide_eq_true (show 0 ≤ i by omega), decide_eq_true (show i < (n : Int) by omega)] at hh
      simpa using hh
  by_cases h2 : kd = 2
  · subst h2; exact remove_2 B g n ws vm i w hb hB
  by_cases h3 : kd = 3
  · subst h3; exact clear_3 B g n ws vm i w hb hB
  by_cases h4 : kd = 4
  · subst h4; exact next_4 B g n ws vm i w hb hB
  exact has_5 B g n ws vm kd i w hb hB h1 h2 h3 h4

end Go.Proofs.YtncbbphhndmibaaDoor.BitStep
