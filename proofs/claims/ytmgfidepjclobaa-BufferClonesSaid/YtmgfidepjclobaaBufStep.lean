/- Proved: what one call of a script of package scutagelaw16 does to buffers and to lists, and that they agree. -/
import Derived.Test.YtmgfidepjclobaaBufLaw
namespace Go.Proofs.Ytmgfidepjclobaa.BufStep
open Go.RowKit Go.Proofs.Ytmgfidepjclobaa.H Go.Proofs.Ytmgfidepjclobaa.Nums Go.Proofs.Ytmgfidepjclobaa.Buffer Go.Proofs.Ytmgfidepjclobaa.BufLaw
set_option linter.unusedVariables false
set_option linter.unusedSimpArgs false

/-- buffers, and lists in a row of rows apart from them, with the same in them -/
structure Both (w : World) (B g : Nat) (v : Value) (L : List Ln) (vm : Value) (M : List Ln) (N : Nat) : Prop where
  buf : Bufs w B g v L
  mem : Buffer.Rows w B vm M
  sep : ∀ k, RFoot vm M k → ¬ Foot g v L k
  same : dat M = dat L
  tot : ∀ p ∈ dat L, p.length ≤ N
theorem Both.len {w : World} {B g : Nat} {v : Value} {L : List Ln} {vm : Value} {M : List Ln} {N : Nat} (h : Both w B g v L vm M N) : M.length = L.length := by
  have := congrArg List.length h.same
  simpa [dat] using this
theorem Both.no {w w' : World} {B g : Nat} {v : Value} {L : List Ln} {vm : Value} {M : List Ln} {N : Nat} (h : Both w B g v L vm M N) (hf : Fr No w w') : Both w' B g v L vm M N :=
  ⟨h.buf.no hf, h.mem.fr hf (fun _ _ h => h), h.sep, h.same, h.tot⟩
def StepPost (B g : Nat) (v : Value) (L : List Ln) (N : Nat) (w : World) (x : Ending) (w' : World) : Prop :=
  ∃ vm' L' M', x = .returned (.tuple #[vm', .bool true]) ∧ Both w' B g v L' vm' M' (N + 1) ∧ Fr (Foot g v L) w w' ∧ ∀ k, Foot g v L' k → Foot g v L k ∨ w.heap.size ≤ k
theorem close {w w1 w2 wE : World} {B g N : Nat} {v vm vm' : Value} {L L' M M' : List Ln} (hb : Both w B g v L vm M N) (F1 : Fr No w w1) (R : Buffer.Rows w1 B vm' M') (hR : ∀ k, RFoot vm' M' k → RFoot vm M k ∨ w.heap.size ≤ k)
    (b2 : Bufs w2 B g v L') (F2 : Fr (Foot g v L) w1 w2) (mv : ∀ k, Foot g v L' k → Foot g v L k ∨ w1.heap.size ≤ k) (FE : Fr No w2 wE) (sm : dat M' = dat L') (tt : ∀ p ∈ dat L', p.length ≤ N + 1) :
    StepPost B g v L N w (.returned (.tuple #[vm', .bool true])) wE := by
  have hs : ∀ k, RFoot vm' M' k → ¬ Foot g v L k := fun k hk hf => by
    rcases hR k hk with h | h
    · exact hb.sep k h hf
    · have := (hb.buf.foot_lt k hf).2; omega
  refine ⟨vm', L', M', rfl, ⟨b2.no FE, (R.fr F2 hs).fr FE (fun _ _ h => h), fun k hk hf => ?_, sm, tt⟩, ?_, fun k hk => ?_⟩
  · rcases mv k hf with h | h
    · exact hs k hk h
    · have := (R.lt k hk).2; omega
  · exact ((F1.mono (fun _ h => h.elim)).trans F2 (fun i hi => .inl hi)).trans FE (fun i (h : No i) => h.elim)
  · rcases mv k hk with h | h
    · exact .inl h
    · exact .inr (by have := F1.size; omega)
/-- nothing turns -/
theorem close0 {w wE : World} {B g N : Nat} {v vm : Value} {L M : List Ln} (hb : Both w B g v L vm M N) (FE : Fr No w wE) :
    StepPost B g v L N w (.returned (.tuple #[vm, .bool true])) wE :=
  close hb (Fr.refl _ _) hb.mem (fun k hk => .inl hk) hb.buf (Fr.refl _ _) (fun k hk => .inl hk) FE hb.same (fun p hp => Nat.le_succ_of_le (hb.tot p hp))
theorem dat_at {L M : List Ln} (h : dat M = dat L) (k : Nat) (hk : k < M.length) (hk2 : k < L.length) : (M[k]).2 = (L[k]).2 := by
  have h1 : (dat M)[k]? = some (M[k]).2 := by unfold dat; simp [hk]
  have h2 : (dat L)[k]? = some (L[k]).2 := by unfold dat; simp [hk2]
  rw [h, h2] at h1
  injection h1 with h1
  exact h1.symm

set_option maxRecDepth 100000 in
set_option maxHeartbeats 12800000 in
theorem put_out1 (B g N : Nat) (v vm : Value) (L M : List Ln) (t : Int) (a : Int) (w : World) (hb : Both w B g v L vm M N) (hN : N ≤ 999999) (ht : t < 0 ∨ (L.length : Int) ≤ t) :
    Calls Try.prog 19 #[.pointer (some ⟨g, 0, none⟩), vm, .agg #[.int .i64 1, .int .i64 t, .int .i64 a]] w (StepPost B g v L N w) := by
  obtain ⟨A, c, rfl, _⟩ := own_slice hb.mem.own
  have HB := Lib.hid hb
  have HLEN := Lib.hid hb.len
  have HN := Lib.hid hN
  have h8 := hb.buf.len
  obtain ⟨n, hn⟩ : ∃ n, n = M.length := ⟨_, rfl⟩
  rw [← hn] at HB ⊢
  have HM := Lib.hid hn
  have hLn : L.length = n := by rw [hn]; exact hb.len.symm
  have HLN := Lib.hid hLn
  clear hb hn hN
  go_enter Try.func19, Try.ntmps19
  go_upto_region 1 with (fail)
  have F0 := Lib.hid ((Fr.refl No w).alloc (.cells #[.int .i64 1, .int .i64 t, .int .i64 a] 46))
  have X0 := Lib.hid (heap_alloc_new w (.cells #[.int .i64 1, .int .i64 t, .int .i64 a] 46))
  have hz0 : (w.alloc (.cells #[.int .i64 1, .int .i64 t, .int .i64 a] 46)).heap.size = w.heap.size + 1 := by simp
  generalize w.alloc (.cells #[.int .i64 1, .int .i64 t, .int .i64 a] 46) = w0 at F0 X0 hz0 ⊢
  have B0 := Lib.hid (HB.out.no F0.out)
  have b0 := cell_of X0.out 0
  have b1 := cell_of X0.out 1
  have b2 := cell_of X0.out 2
  have n0 := World.new_ne w0 _ b0
  have HT := Lib.hid ht
  by_cases h1 : t < 0
  · have g1 : decide (0 ≤ t) = false := by simp; omega
    clear h1 ht
    go_wp2
    go_quiet (fail)
    go_wp2_with fail
    with_reducible refine (put_out B g v L t a HT.out _ (B0.out.no (by repeat (first | exact Fr.refl _ _ | apply Fr.drewN | apply Fr.drew))).buf).mono ?_
    rintro x1 w1 ⟨rfl, n1, hw1⟩
    have F1 := Lib.hid (drewN_fr (by repeat (first | exact F0.out | apply Fr.drewN | apply Fr.drew)) hw1)
    clear hw1
    go_wp2_with fail
    go_ret2
    exact close0 HB.out F1.out

  · have g1 : decide (0 ≤ t) = true := by simp; omega
    have g2 : decide (t < (n : Int)) = false := by simp; omega
    clear h1 ht
    go_wp2
    go_quiet (fail)
    go_wp2_with fail
    with_reducible refine (put_out B g v L t a HT.out _ (B0.out.no (by repeat (first | exact Fr.refl _ _ | apply Fr.drewN | apply Fr.drew))).buf).mono ?_
    rintro x1 w1 ⟨rfl, n1, hw1⟩
    have F1 := Lib.hid (drewN_fr (by repeat (first | exact F0.out | apply Fr.drewN | apply Fr.drew)) hw1)
    clear hw1
    go_wp2_with fail
    go_ret2
    exact close0 HB.out F1.out

set_option maxRecDepth 100000 in
set_option maxHeartbeats 12800000 in
theorem put_far1 (B g N : Nat) (v vm : Value) (L M : List Ln) (k : Nat) (a : Int) (w : World) (hb : Both w B g v L vm M N) (hN : N ≤ 999999) (hk : k < L.length) (ha : a < 0 ∨ 2048 ≤ a) :
    Calls Try.prog 19 #[.pointer (some ⟨g, 0, none⟩), vm, .agg #[.int .i64 1, .int .i64 k, .int .i64 a]] w (StepPost B g v L N w) := by
  obtain ⟨A, c, rfl, _⟩ := own_slice hb.mem.own
  have HB := Lib.hid hb
  have HLEN := Lib.hid hb.len
  have HN := Lib.hid hN
  have h8 := hb.buf.len
  have hkM : k < M.length := by rw [hb.len]; exact hk
  obtain ⟨dm, cm, he, x0, _, hdm, _⟩ := hb.mem.slot k hkM
  injection he with he hmid he3
  subst he he3
  clear hmid
  have hrow := hb.mem.row _ (List.getElem_mem hkM)
  have hat := List.getElem?_eq_getElem hkM
  have hxs := dat_at hb.same k hkM hk
  have hRF : ∀ j, (M[k]).1.ownBlock = some j → RFoot (.slice (some ⟨dm, 0, none⟩) M.length c) M j := fun j hj => .inr ⟨_, List.getElem_mem hkM, hj⟩
  have hle : (L[k]).2.length ≤ N := hb.tot _ (List.mem_map.2 ⟨_, List.getElem_mem hk, rfl⟩)
  generalize M[k] = p at x0 hrow hat hxs hRF
  obtain ⟨pv, xs⟩ := p
  dsimp only at x0 hrow hat hxs hRF
  obtain ⟨A2, c2, rfl, hcc⟩ := hrow.slice
  obtain ⟨q, hq⟩ : ∃ q, q = xs.length := ⟨_, rfl⟩
  have HROW := Lib.hid hrow
  have HRX : Hid (∀ W, Fr No w W → Rd W (.slice A2 q c2) q 1 (ints xs)) := Lib.hid (fun W hW => by rw [hq]; exact (hrow.fr hW (fun _ _ h => h)).rd)
  rw [← hq] at x0 HROW hRF
  have HRY : Hid (∀ W, Fr No w W → Rd W (.slice A2 q c2) xs.length 1 (ints xs)) := Lib.hid (fun W hW => by rw [hq]; exact (hrow.fr hW (fun _ _ h => h)).rd)
  have HQ := Lib.hid hq
  have HXS := Lib.hid hxs
  have HAT := Lib.hid hat
  have HRF := Lib.hid hRF
  have hxl : xs.length ≤ 999999 := by rw [hxs]; omega
  have HXL := Lib.hid hxl
  have HK := Lib.hid hk
  have HGI := Lib.hid (getI_in L k hk)
  have i1 : (0 : Int) ≤ (k : Int) := Int.natCast_nonneg _
  clear hrow hat hxs hle hq hcc hxl hRF
  obtain ⟨n, hn⟩ : ∃ n, n = M.length := ⟨_, rfl⟩
  rw [← hn] at HB ⊢
  have HM := Lib.hid hn
  have hLn : L.length = n := by rw [hn]; exact hb.len.symm
  have HLN := Lib.hid hLn
  clear hb hn hN
  go_enter Try.func19, Try.ntmps19
  go_upto_region 1 with (fail)
  have F0 := Lib.hid ((Fr.refl No w).alloc (.cells #[.int .i64 1, .int .i64 k, .int .i64 a] 46))
  have X0 := Lib.hid (heap_alloc_new w (.cells #[.int .i64 1, .int .i64 k, .int .i64 a] 46))
  have hz0 : (w.alloc (.cells #[.int .i64 1, .int .i64 k, .int .i64 a] 46)).heap.size = w.heap.size + 1 := by simp
  generalize w.alloc (.cells #[.int .i64 1, .int .i64 k, .int .i64 a] 46) = w0 at F0 X0 hz0 ⊢
  have B0 := Lib.hid (HB.out.no F0.out)
  have b0 := cell_of X0.out 0
  have b1 := cell_of X0.out 1
  have b2 := cell_of X0.out 2
  have n0 := World.new_ne w0 _ b0
  have i2 : (k : Int) < (n : Int) := by have := HK.out; omega
  have y0 : w0.cell? ⟨dm, k, none⟩ = some (.slice A2 q c2) := F0.out.cell x0 (fun h => h)
  have g1 : decide (0 ≤ (k : Int)) = true := by simp
  have g2 : decide ((k : Int) < (n : Int)) = true := by simpa using i2
  clear x0 hkM

  have HA := Lib.hid ha
  by_cases h1 : a < 0
  · have g3 : decide (a < 0) = true := by simp; omega
    clear h1 ha
    go_wp2
    go_quiet (fail)
    go_wp2_with fail
    with_reducible refine (put_far B g v L k HK.out a HA.out _ (B0.out.no (by repeat (first | exact Fr.refl _ _ | apply Fr.drewN | apply Fr.drew))).buf).mono ?_
    rintro x1 w1 ⟨rfl, n1, hw1⟩
    have F1 := Lib.hid (drewN_fr (by repeat (first | exact F0.out | apply Fr.drewN | apply Fr.drew)) hw1)
    clear hw1
    go_wp2_with fail
    go_ret2
    exact close0 HB.out F1.out

  · have g3 : decide (a < 0) = false := by simp; omega
    have g4 : decide (2047 < a) = true := by simp; omega
    clear h1 ha
    go_wp2
    go_quiet (fail)
    go_wp2_with fail
    with_reducible refine (put_far B g v L k HK.out a HA.out _ (B0.out.no (by repeat (first | exact Fr.refl _ _ | apply Fr.drewN | apply Fr.drew))).buf).mono ?_
    rintro x1 w1 ⟨rfl, n1, hw1⟩
    have F1 := Lib.hid (drewN_fr (by repeat (first | exact F0.out | apply Fr.drewN | apply Fr.drew)) hw1)
    clear hw1
    go_wp2_with fail
    go_ret2
    exact close0 HB.out F1.out

set_option maxRecDepth 100000 in
set_option maxHeartbeats 12800000 in
theorem put_has1 (B g N : Nat) (v vm : Value) (L M : List Ln) (k : Nat) (a : Int) (w : World) (hb : Both w B g v L vm M N) (hN : N ≤ 999999) (hk : k < L.length) (ha : 0 ≤ a ∧ a < 2048) (hm : a ∈ (L[k]).2) :
    Calls Try.prog 19 #[.pointer (some ⟨g, 0, none⟩), vm, .agg #[.int .i64 1, .int .i64 k, .int .i64 a]] w (StepPost B g v L N w) := by
  obtain ⟨A, c, rfl, _⟩ := own_slice hb.mem.own
  have HB := Lib.hid hb
  have HLEN := Lib.hid hb.len
  have HN := Lib.hid hN
  have h8 := hb.buf.len
  have HMM := Lib.hid hm
  clear hm
  have hkM : k < M.length := by rw [hb.len]; exact hk
  obtain ⟨dm, cm, he, x0, _, hdm, _⟩ := hb.mem.slot k hkM
  injection he with he hmid he3
  subst he he3
  clear hmid
  have hrow := hb.mem.row _ (List.getElem_mem hkM)
  have hat := List.getElem?_eq_getElem hkM
  have hxs := dat_at hb.same k hkM hk
  have hRF : ∀ j, (M[k]).1.ownBlock = some j → RFoot (.slice (some ⟨dm, 0, none⟩) M.length c) M j := fun j hj => .inr ⟨_, List.getElem_mem hkM, hj⟩
  have hle : (L[k]).2.length ≤ N := hb.tot _ (List.mem_map.2 ⟨_, List.getElem_mem hk, rfl⟩)
  generalize M[k] = p at x0 hrow hat hxs hRF
  obtain ⟨pv, xs⟩ := p
  dsimp only at x0 hrow hat hxs hRF
  obtain ⟨A2, c2, rfl, hcc⟩ := hrow.slice
  obtain ⟨q, hq⟩ : ∃ q, q = xs.length := ⟨_, rfl⟩
  have HROW := Lib.hid hrow
  have HRX : Hid (∀ W, Fr No w W → Rd W (.slice A2 q c2) q 1 (ints xs)) := Lib.hid (fun W hW => by rw [hq]; exact (hrow.fr hW (fun _ _ h => h)).rd)
  rw [← hq] at x0 HROW hRF
  have HRY : Hid (∀ W, Fr No w W → Rd W (.slice A2 q c2) xs.length 1 (ints xs)) := Lib.hid (fun W hW => by rw [hq]; exact (hrow.fr hW (fun _ _ h => h)).rd)
  have HQ := Lib.hid hq
  have HXS := Lib.hid hxs
  have HAT := Lib.hid hat
  have HRF := Lib.hid hRF
  have hxl : xs.length ≤ 999999 := by rw [hxs]; omega
  have HXL := Lib.hid hxl
  have HK := Lib.hid hk
  have HGI := Lib.hid (getI_in L k hk)
  have i1 : (0 : Int) ≤ (k : Int) := Int.natCast_nonneg _
  clear hrow hat hxs hle hq hcc hxl hRF
  obtain ⟨n, hn⟩ : ∃ n, n = M.length := ⟨_, rfl⟩
  rw [← hn] at HB ⊢
  have HM := Lib.hid hn
  have hLn : L.length = n := by rw [hn]; exact hb.len.symm
  have HLN := Lib.hid hLn
  clear hb hn hN
  go_enter Try.func19, Try.ntmps19
  go_upto_region 1 with (fail)
  have F0 := Lib.hid ((Fr.refl No w).alloc (.cells #[.int .i64 1, .int .i64 k, .int .i64 a] 46))
  have X0 := Lib.hid (heap_alloc_new w (.cells #[.int .i64 1, .int .i64 k, .int .i64 a] 46))
  have hz0 : (w.alloc (.cells #[.int .i64 1, .int .i64 k, .int .i64 a] 46)).heap.size = w.heap.size + 1 := by simp
  generalize w.alloc (.cells #[.int .i64 1, .int .i64 k, .int .i64 a] 46) = w0 at F0 X0 hz0 ⊢
  have B0 := Lib.hid (HB.out.no F0.out)
  have b0 := cell_of X0.out 0
  have b1 := cell_of X0.out 1
  have b2 := cell_of X0.out 2
  have n0 := World.new_ne w0 _ b0
  have i2 : (k : Int) < (n : Int) := by have := HK.out; omega
  have y0 : w0.cell? ⟨dm, k, none⟩ = some (.slice A2 q c2) := F0.out.cell x0 (fun h => h)
  have g1 : decide (0 ≤ (k : Int)) = true := by simp
  have g2 : decide ((k : Int) < (n : Int)) = true := by simpa using i2
  clear x0 hkM
  have HIN : Hid (∀ W, Fr No w W → Calls Try.prog 25 #[.slice A2 q c2, .int .i64 a] W (Quiet W (.bool true))) := Lib.hid (fun W hW => by
    have h := in_any A2 q c2 xs a HQ.out W (HRX.out W hW) (by have := HXL.out; omega)
    rw [decide_eq_true (show a ∈ xs from by rw [HXS.out]; exact HMM.out)] at h
    exact h)
  have g3 : decide (a < 0) = false := by simp; omega
  have g4 : decide (2047 < a) = false := by simp; omega
  have HA := Lib.hid ha
  clear ha
  go_wp2
  go_quiet ((go_at_call 25; exact Calls.quiet_of (HIN.out _ (by repeat (first | exact F0.out | apply Fr.drewN | apply Fr.drew)))))
  go_wp2_with fail
  with_reducible refine (put_has B g v L k HK.out a HA.out HMM.out (by rw [← HXS.out]; have := HXL.out; omega) _ (B0.out.no (by repeat (first | exact Fr.refl _ _ | apply Fr.drewN | apply Fr.drew))).buf).mono ?_
  rintro x1 w1 ⟨rfl, n1, hw1⟩
  have F1 := Lib.hid (drewN_fr (by repeat (first | exact F0.out | apply Fr.drewN | apply Fr.drew)) hw1)
  clear hw1
  go_wp2_with fail
  go_ret2
  exact close0 HB.out F1.out

theorem rows_set {w0 w7 : World} {B k n7 c7 : Nat} {vm u : Value} {A7 : Option Addr} {M : List Ln} {xs : List Int} (hm : Buffer.Rows w7 B vm M) (hu : Own w7 B u xs) (ho : w7.ownsRow B 32 1 (.slice A7 n7 c7) (M.set k (u, xs)).length ((M.set k (u, xs)).map (·.1))) :
    Buffer.Rows w7 B (.slice A7 n7 c7) (M.set k (u, xs)) := by
  refine ⟨ho, fun p hp => ?_⟩
  rcases List.mem_or_eq_of_mem_set hp with h | rfl
  · exact hm.row p h
  · exact hu
theorem rfoot_set {v' vm u : Value} {M : List Ln} {k : Nat} {xs : List Int} {P : Nat → Prop} (h1 : ∀ b, v'.ownBlock = some b → P b) (h2 : ∀ b, u.ownBlock = some b → P b) : ∀ b, RFoot v' (M.set k (u, xs)) b → RFoot vm M b ∨ P b := by
  rintro b (h | ⟨p, hp, h⟩)
  · exact .inr (h1 b h)
  · rcases List.mem_or_eq_of_mem_set hp with hp | rfl
    · exact .inl (.inr ⟨p, hp, h⟩)
    · exact .inr (h2 b h)
theorem tot_set {D : List (List Int)} {k N : Nat} {xs : List Int} (h : ∀ p ∈ D, p.length ≤ N) (hx : xs.length ≤ N + 1) : ∀ p ∈ D.set k xs, p.length ≤ N + 1 := by
  intro p hp
  rcases List.mem_or_eq_of_mem_set hp with h2 | rfl
  · exact Nat.le_succ_of_le (h p h2)
  · exact hx

set_option maxRecDepth 100000 in
set_option maxHeartbeats 12800000 in
theorem put_yes1 (B g N : Nat) (v vm : Value) (L M : List Ln) (k : Nat) (a : Int) (w : World) (hb : Both w B g v L vm M N) (hN : N ≤ 999999) (hk : k < L.length) (ha : 0 ≤ a ∧ a < 2048) (hm : a ∉ (L[k]).2) :
    Calls Try.prog 19 #[.pointer (some ⟨g, 0, none⟩), vm, .agg #[.int .i64 1, .int .i64 k, .int .i64 a]] w (StepPost B g v L N w) := by
  obtain ⟨A, c, rfl, _⟩ := own_slice hb.mem.own
  have HB := Lib.hid hb
  have HLEN := Lib.hid hb.len
  have HN := Lib.hid hN
  have h8 := hb.buf.len
  have HMM := Lib.hid hm
  clear hm
  have hkM : k < M.length := by rw [hb.len]; exact hk
  obtain ⟨dm, cm, he, x0, _, hdm, _⟩ := hb.mem.slot k hkM
  injection he with he hmid he3
  subst he he3
  clear hmid
  have hrow := hb.mem.row _ (List.getElem_mem hkM)
  have hat := List.getElem?_eq_getElem hkM
  have hxs := dat_at hb.same k hkM hk
  have hRF : ∀ j, (M[k]).1.ownBlock = some j → RFoot (.slice (some ⟨dm, 0, none⟩) M.length c) M j := fun j hj => .inr ⟨_, List.getElem_mem hkM, hj⟩
  have hle : (L[k]).2.length ≤ N := hb.tot _ (List.mem_map.2 ⟨_, List.getElem_mem hk, rfl⟩)
  generalize M[k] = p at x0 hrow hat hxs hRF
  obtain ⟨pv, xs⟩ := p
  dsimp only at x0 hrow hat hxs hRF
  obtain ⟨A2, c2, rfl, hcc⟩ := hrow.slice
  obtain ⟨q, hq⟩ : ∃ q, q = xs.length := ⟨_, rfl⟩
  have HROW := Lib.hid hrow
  have HRX : Hid (∀ W, Fr No w W → Rd W (.slice A2 q c2) q 1 (ints xs)) := Lib.hid (fun W hW => by rw [hq]; exact (hrow.fr hW (fun _ _ h => h)).rd)
  rw [← hq] at x0 HROW hRF
  have HRY : Hid (∀ W, Fr No w W → Rd W (.slice A2 q c2) xs.length 1 (ints xs)) := Lib.hid (fun W hW => by rw [hq]; exact (hrow.fr hW (fun _ _ h => h)).rd)
  have HQ := Lib.hid hq
  have HXS := Lib.hid hxs
  have HAT := Lib.hid hat
  have HRF := Lib.hid hRF
  have hxl : xs.length ≤ 999999 := by rw [hxs]; omega
  have HXL := Lib.hid hxl
  have HK := Lib.hid hk
  have HGI := Lib.hid (getI_in L k hk)
  have i1 : (0 : Int) ≤ (k : Int) := Int.natCast_nonneg _
  clear hrow hat hxs hle hq hcc hxl hRF
  obtain ⟨n, hn⟩ : ∃ n, n = M.length := ⟨_, rfl⟩
  rw [← hn] at HB ⊢
  have HM := Lib.hid hn
  have hLn : L.length = n := by rw [hn]; exact hb.len.symm
  have HLN := Lib.hid hLn
  clear hb hn hN
  go_enter Try.func19, Try.ntmps19
  go_upto_region 1 with (fail)
  have F0 := Lib.hid ((Fr.refl No w).alloc (.cells #[.int .i64 1, .int .i64 k, .int .i64 a] 46))
  have X0 := Lib.hid (heap_alloc_new w (.cells #[.int .i64 1, .int .i64 k, .int .i64 a] 46))
  have hz0 : (w.alloc (.cells #[.int .i64 1, .int .i64 k, .int .i64 a] 46)).heap.size = w.heap.size + 1 := by simp
  generalize w.alloc (.cells #[.int .i64 1, .int .i64 k, .int .i64 a] 46) = w0 at F0 X0 hz0 ⊢
  have B0 := Lib.hid (HB.out.no F0.out)
  have b0 := cell_of X0.out 0
  have b1 := cell_of X0.out 1
  have b2 := cell_of X0.out 2
  have n0 := World.new_ne w0 _ b0
  have i2 : (k : Int) < (n : Int) := by have := HK.out; omega
  have y0 : w0.cell? ⟨dm, k, none⟩ = some (.slice A2 q c2) := F0.out.cell x0 (fun h => h)
  have g1 : decide (0 ≤ (k : Int)) = true := by simp
  have g2 : decide ((k : Int) < (n : Int)) = true := by simpa using i2
  clear x0 hkM
  have HIN : Hid (∀ W, Fr No w W → Calls Try.prog 25 #[.slice A2 q c2, .int .i64 a] W (Quiet W (.bool false))) := Lib.hid (fun W hW => by
    have h := in_any A2 q c2 xs a HQ.out W (HRX.out W hW) (by have := HXL.out; omega)
    rw [decide_eq_false (show a ∉ xs from by rw [HXS.out]; exact HMM.out)] at h
    exact h)
  have g3 : decide (a < 0) = false := by simp; omega
  have g4 : decide (2047 < a) = false := by simp; omega
  have HA := Lib.hid ha
  clear ha
  go_wp2
  go_quiet ((go_at_call 25; exact Calls.quiet_of (HIN.out _ (by repeat (first | exact F0.out | apply Fr.drewN | apply Fr.drew)))))
  go_wp2_with (at_builtin; refine app_own (v := .slice none 0 0) (l := []) (u := .slice A2 q c2) rfl _ _ rfl (B := w0.heap.size) rfl (Own.nil _ _) rfl (HRY.out _ (by repeat (first | exact F0.out | apply Fr.drewN | apply Fr.drew))) (by have := HXL.out; simp; omega) (by simp) ?_; intro v5 w5 hown5 hgrow5 hat5; refine Hid.out ?_)
  have O5 : Hid (Own w5 w0.heap.size v5 xs) := Lib.hid (by simpa using hown5)
  have F5 := Lib.hid (show Fr No w0 w5 from Fr.grown (by repeat (first | exact Fr.refl _ _ | apply Fr.drewN | apply Fr.drew)) hgrow5 (fun j hj => by cases hj))
  clear hown5 hgrow5 hat5
  obtain ⟨A5, c5, rfl, _⟩ := O5.out.slice
  obtain ⟨q5, hq5⟩ : ∃ q5, q5 = xs.length := ⟨_, rfl⟩
  rw [← hq5] at O5 ⊢
  clear hq5
  have b5 := cell_of (F5.out.blk X0.out (fun h => h)) 2
  have n5 := World.new_ne w5 _ b5
  have z5 : (w5.alloc (.cells #[.int .i64 a] 3)).heap[w5.heap.size]? = some (.cells #[.int .i64 a] 3 (0, 0)) := heap_alloc_new _ _
  have Z5 := Lib.hid z5
  clear z5
  refine Lib.hid ?_
  go_wp2_with (at_builtin; refine app_one (l := xs) (y := a) rfl _ _ rfl rfl (O5.out.fr (Fr.alloc (Fr.refl No _) _) (fun _ _ h => h)) rfl rfl Z5.out (by decide) (by have := HXL.out; omega) (by have := F5.out.size; simp; omega) ?_; intro v6 w6 h1 h2 h3; refine Hid.out ?_)
  have O6 := Lib.hid h1
  have F6 := Lib.hid (show Fr No w0 w6 from Fr.grown (F5.out.alloc _) h2 (fun j hj => .inr (O5.out.lt j hj).1))
  clear h1 h2 h3
  obtain ⟨A6, c6, rfl, _⟩ := O6.out.slice
  obtain ⟨q6, hq6⟩ : ∃ q6, q6 = (xs ++ [a]).length := ⟨_, rfl⟩
  rw [← hq6] at O6 ⊢
  clear hq6 b0 b1 b2 n0 y0 n5 b5
  have b61 := cell_of (F6.out.blk X0.out (fun h => h)) 1
  have b62 := cell_of (F6.out.blk X0.out (fun h => h)) 2
  have n6 := World.new_ne w6 _ b61
  have HNB := Lib.hid (show ¬ Foot g v L w.heap.size from fun h => by have := (HB.out.buf.foot_lt _ h).2; omega)
  have HMK : Hid (k < M.length) := Lib.hid (by have := HM.out; omega)
  refine Lib.hid ?_
  have HM8 : Hid (M.length ≤ 8) := Lib.hid (by have := HM.out; omega)
  go_wp2_with fail
  go_region_held3 (fun W => W.cell? ⟨w.heap.size, 1, none⟩ = some (.int .i64 k) ∧ W.cell? ⟨w.heap.size, 2, none⟩ = some (.int .i64 a)) (((try go_split_ands); refine ⟨?_, ?_⟩ <;> (first | with_reducible assumption | (go_keep; done))))
    ((first
      | (go_at_call 29; (with_reducible refine (set_any B _ M k HMK.out A6 q6 c6 (xs ++ [a]) _ ((HB.out.no F0.out).no (by repeat (first | exact F6.out | apply Fr.drewN | apply Fr.drew))).mem HM8.out).mono ?_); rintro x7 w7 ⟨v7, rfl, ho7, hb7⟩; obtain ⟨A7, c7, rfl, _⟩ := own_slice ho7; obtain ⟨n7, hn7⟩ : ∃ n7, n7 = (M.set k (.slice A6 q6 c6, xs ++ [a])).length := ⟨_, rfl⟩; have F7 := Lib.hid (show Fr No w0 w7 from Fr.then_below (by repeat (first | exact F6.out | apply Fr.drewN | apply Fr.drew)) hb7); have F67 := Lib.hid (show Fr No w6 w7 from Fr.then_below (by repeat (first | exact Fr.refl _ _ | apply Fr.drewN | apply Fr.drew)) hb7); have R7 := Lib.hid (show w7.ownsRow _ 32 1 (.slice A7 n7 c7) (M.set k (.slice A6 q6 c6, xs ++ [a])).length ((M.set k (.slice A6 q6 c6, xs ++ [a])).map (·.1)) from by rw [hn7]; exact ho7); have c71 : w7.cell? ⟨w.heap.size, 1, none⟩ = some (.int .i64 k) := cell_of (F7.out.blk X0.out (fun h => h)) 1; have c72 : w7.cell? ⟨w.heap.size, 2, none⟩ = some (.int .i64 a) := cell_of (F7.out.blk X0.out (fun h => h)) 2; have nw7 := World.new_ne w7 _ c71; rw [← hn7]; clear ho7 hb7 hn7)
      | (go_at_call 11; (with_reducible refine (put_yes B g v L k HK.out a HA.out HMM.out (by rw [← HXS.out]; have := HXL.out; omega) _ ((HB.out.no F0.out).no (by repeat (first | exact F7.out | apply Fr.drewN | apply Fr.drew))).buf).mono ?_); rintro x8 w8 ⟨L8, rfl, hd8, hb8, hf8, hm8⟩; have F78 := Lib.hid (show Fr (Foot g v L) w7 w8 from Fr.trans (by repeat (first | exact Fr.refl _ _ | apply Fr.drewN | apply Fr.drew)) hf8 (fun i hi => .inl hi)); have F8 := Lib.hid (show Fr (Foot g v L) w0 w8 from (F7.out.mono (fun _ h => h.elim)).trans F78.out (fun i hi => .inl hi)); have D8 := Lib.hid hd8; have B8 := Lib.hid hb8; have M8 := Lib.hid hm8; have c81 : w8.cell? ⟨w.heap.size, 1, none⟩ = some (.int .i64 k) := cell_of (F8.out.blk X0.out HNB.out) 1; have c82 : w8.cell? ⟨w.heap.size, 2, none⟩ = some (.int .i64 a) := cell_of (F8.out.blk X0.out HNB.out) 2; have n8 := World.new_ne w8 _ c81; clear hd8 hb8 hf8 hm8)))
  all_goals
    go_wp2_with fail
    go_ret2
    have ho6 := O6.out.fr F67.out (fun _ _ h => h)
    have hsz := F6.out.size
    exact close HB.out ((F0.out.trans F7.out (fun i (h : No i) => h.elim))) (rows_set (w0 := w0) ((HB.out.no F0.out).no F7.out).mem (ho6.lower (by have := HB.out.buf.base; have := (HB.out.buf.foot_lt g (.inl rfl)).2; omega)) (Buffer.own_lower (B' := B) R7.out (by have := HB.out.buf.base; have := (HB.out.buf.foot_lt g (.inl rfl)).2; have := F6.out.size; simp; omega)))
      (rfoot_set (P := fun b => w.heap.size ≤ b) (fun b hb => by have h := (World.ownsRow.lt R7.out b hb).1; simp at h; omega) (fun b hb => by have h := (ho6.lt b hb).1; omega)) B8.out F78.out (fun j hj => by have := M8.out j hj; simpa using this) (by repeat (first | exact Fr.refl _ _ | apply Fr.drewN | apply Fr.drew))
      (by rw [D8.out, dat_set, HB.out.same, HXS.out]) (by rw [D8.out]; exact tot_set HB.out.tot (by have h := HB.out.tot _ (List.mem_map.2 ⟨_, List.getElem_mem HK.out, rfl⟩); simp at h ⊢; omega))

set_option maxRecDepth 100000 in
set_option maxHeartbeats 12800000 in
theorem take_out2 (B g N : Nat) (v vm : Value) (L M : List Ln) (t : Int) (a : Int) (w : World) (hb : Both w B g v L vm M N) (hN : N ≤ 999999) (ht : t < 0 ∨ (L.length : Int) ≤ t) :
    Calls Try.prog 19 #[.pointer (some ⟨g, 0, none⟩), vm, .agg #[.int .i64 2, .int .i64 t, .int .i64 a]] w (StepPost B g v L N w) := by
  obtain ⟨A, c, rfl, _⟩ := own_slice hb.mem.own
  have HB := Lib.hid hb
  have HLEN := Lib.hid hb.len
  have HN := Lib.hid hN
  have h8 := hb.buf.len
  obtain ⟨n, hn⟩ : ∃ n, n = M.length := ⟨_, rfl⟩
  rw [← hn] at HB ⊢
  have HM := Lib.hid hn
  have hLn : L.length = n := by rw [hn]; exact hb.len.symm
  have HLN := Lib.hid hLn
  clear hb hn hN
  go_enter Try.func19, Try.ntmps19
  go_upto_region 1 with (fail)
  have F0 := Lib.hid ((Fr.refl No w).alloc (.cells #[.int .i64 2, .int .i64 t, .int .i64 a] 46))
  have X0 := Lib.hid (heap_alloc_new w (.cells #[.int .i64 2, .int .i64 t, .int .i64 a] 46))
  have hz0 : (w.alloc (.cells #[.int .i64 2, .int .i64 t, .int .i64 a] 46)).heap.size = w.heap.size + 1 := by simp
  generalize w.alloc (.cells #[.int .i64 2, .int .i64 t, .int .i64 a] 46) = w0 at F0 X0 hz0 ⊢
  have B0 := Lib.hid (HB.out.no F0.out)
  have b0 := cell_of X0.out 0
  have b1 := cell_of X0.out 1
  have b2 := cell_of X0.out 2
  have n0 := World.new_ne w0 _ b0
  have HT := Lib.hid ht
  have HE : Hid (getI (dat L) t = [] ∧ takeD (dat L) t = dat L) := Lib.hid (by
    have hdl := dat_length L
    unfold takeD inD
    rw [hdl]
    rcases ht with h | h
    · rw [decide_eq_false (show ¬ 0 ≤ t by omega)]; exact ⟨getI_neg _ _ h, rfl⟩
    · rw [decide_eq_false (show ¬ t < (L.length : Int) by omega)]; exact ⟨getI_past _ _ (by rw [hdl]; exact h), by simp⟩)

  by_cases h1 : t < 0
  · have g1 : decide (0 ≤ t) = false := by simp; omega
    clear h1 ht
    go_wp2_with fail
    with_reducible refine (take_any B g v L t _ (B0.out.no (by repeat (first | exact Fr.refl _ _ | apply Fr.drewN | apply Fr.drew))).buf).mono ?_
    rintro x1 w1 ⟨u, L1, rfl, ho, hd, hb1, hf, hm1, hm2⟩
    rw [HE.out.1] at ho
    rw [HE.out.2] at hd
    obtain ⟨A1, c1, rfl, _⟩ := ho.slice
    have D1 := Lib.hid hd
    have B1 := Lib.hid hb1
    have F1 := Lib.hid (show Fr (Foot g v L) w0 w1 from Fr.trans (by repeat (first | exact Fr.refl _ _ | apply Fr.drewN | apply Fr.drew)) hf (fun i hi => .inl hi))
    have M1 := Lib.hid hm1
    clear ho hd hb1 hf hm1 hm2
    go_wp2_with fail
    go_ret2
    exact close HB.out F0.out B0.out.mem (fun j hj => .inl hj) B1.out F1.out (fun j hj => .inl (M1.out j hj)) (by repeat (first | exact Fr.refl _ _ | apply Fr.drewN | apply Fr.drew)) (by rw [D1.out]; exact HB.out.same) (by rw [D1.out]; exact fun p hp => Nat.le_succ_of_le (HB.out.tot p hp))

  · have g1 : decide (0 ≤ t) = true := by simp; omega
    have g2 : decide (t < (n : Int)) = false := by simp; omega
    clear h1 ht
    go_wp2_with fail
    with_reducible refine (take_any B g v L t _ (B0.out.no (by repeat (first | exact Fr.refl _ _ | apply Fr.drewN | apply Fr.drew))).buf).mono ?_
    rintro x1 w1 ⟨u, L1, rfl, ho, hd, hb1, hf, hm1, hm2⟩
    rw [HE.out.1] at ho
    rw [HE.out.2] at hd
    obtain ⟨A1, c1, rfl, _⟩ := ho.slice
    have D1 := Lib.hid hd
    have B1 := Lib.hid hb1
    have F1 := Lib.hid (show Fr (Foot g v L) w0 w1 from Fr.trans (by repeat (first | exact Fr.refl _ _ | apply Fr.drewN | apply Fr.drew)) hf (fun i hi => .inl hi))
    have M1 := Lib.hid hm1
    clear ho hd hb1 hf hm1 hm2
    go_wp2_with fail
    go_ret2
    exact close HB.out F0.out B0.out.mem (fun j hj => .inl hj) B1.out F1.out (fun j hj => .inl (M1.out j hj)) (by repeat (first | exact Fr.refl _ _ | apply Fr.drewN | apply Fr.drew)) (by rw [D1.out]; exact HB.out.same) (by rw [D1.out]; exact fun p hp => Nat.le_succ_of_le (HB.out.tot p hp))

set_option maxRecDepth 100000 in
set_option maxHeartbeats 12800000 in
theorem len_out (B g N : Nat) (v vm : Value) (L M : List Ln) (kd t : Int) (a : Int) (w : World) (hb : Both w B g v L vm M N) (hN : N ≤ 999999) (h1 : kd ≠ 1) (h2 : kd ≠ 2) (h3 : kd ≠ 3) (ht : t < 0 ∨ (L.length : Int) ≤ t) :
    Calls Try.prog 19 #[.pointer (some ⟨g, 0, none⟩), vm, .agg #[.int .i64 kd, .int .i64 t, .int .i64 a]] w (StepPost B g v L N w) := by
  obtain ⟨A, c, rfl, _⟩ := own_slice hb.mem.own
  have HB := Lib.hid hb
  have HLEN := Lib.hid hb.len
  have HN := Lib.hid hN
  have h8 := hb.buf.len
  obtain ⟨n, hn⟩ : ∃ n, n = M.length := ⟨_, rfl⟩
  rw [← hn] at HB ⊢
  have HM := Lib.hid hn
  have hLn : L.length = n := by rw [hn]; exact hb.len.symm
  have HLN := Lib.hid hLn
  clear hb hn hN
  go_enter Try.func19, Try.ntmps19
  go_upto_region 1 with (fail)
  have F0 := Lib.hid ((Fr.refl No w).alloc (.cells #[.int .i64 kd, .int .i64 t, .int .i64 a] 46))
  have X0 := Lib.hid (heap_alloc_new w (.cells #[.int .i64 kd, .int .i64 t, .int .i64 a] 46))
  have hz0 : (w.alloc (.cells #[.int .i64 kd, .int .i64 t, .int .i64 a] 46)).heap.size = w.heap.size + 1 := by simp
  generalize w.alloc (.cells #[.int .i64 kd, .int .i64 t, .int .i64 a] 46) = w0 at F0 X0 hz0 ⊢
  have B0 := Lib.hid (HB.out.no F0.out)
  have b0 := cell_of X0.out 0
  have b1 := cell_of X0.out 1
  have b2 := cell_of X0.out 2
  have n0 := World.new_ne w0 _ b0
  have e1 : (kd == 1) = false := by simpa using h1
  have e2 : (kd == 2) = false := by simpa using h2
  have e3 : (kd == 3) = false := by simpa using h3
  clear h1 h2 h3
  have HT := Lib.hid ht
  have HE : Hid (getI (dat L) t = [] ∧ takeD (dat L) t = dat L) := Lib.hid (by
    have hdl := dat_length L
    unfold takeD inD
    rw [hdl]
    rcases ht with h | h
    · rw [decide_eq_false (show ¬ 0 ≤ t by omega)]; exact ⟨getI_neg _ _ h, rfl⟩
    · rw [decide_eq_false (show ¬ t < (L.length : Int) by omega)]; exact ⟨getI_past _ _ (by rw [hdl]; exact h), by simp⟩)

  by_cases h1 : t < 0
  · have g1 : decide (0 ≤ t) = false := by simp; omega
    clear h1 ht
    have HLO : Hid (∀ W, Fr No w0 W → Calls Try.prog 18 #[.pointer (some ⟨g, 0, none⟩), .int .i64 t] W (Quiet W (.int .i64 0))) := Lib.hid (fun W hW => by
      have h := len_any B g v L t W (B0.out.no hW).buf
      rw [HE.out.1] at h
      exact h)
    go_wp2_with fail
    with_reducible refine (HLO.out _ (by repeat (first | exact Fr.refl _ _ | apply Fr.drewN | apply Fr.drew))).mono ?_
    rintro x1 w1 ⟨rfl, n1, hw1⟩
    have F1 := Lib.hid (drewN_fr (by repeat (first | exact F0.out | apply Fr.drewN | apply Fr.drew)) hw1)
    clear hw1
    go_wp2_with fail
    go_ret2
    exact close0 HB.out F1.out

  · have g1 : decide (0 ≤ t) = true := by simp; omega
    have g2 : decide (t < (n : Int)) = false := by simp; omega
    clear h1 ht
    have HLO : Hid (∀ W, Fr No w0 W → Calls Try.prog 18 #[.pointer (some ⟨g, 0, none⟩), .int .i64 t] W (Quiet W (.int .i64 0))) := Lib.hid (fun W hW => by
      have h := len_any B g v L t W (B0.out.no hW).buf
      rw [HE.out.1] at h
      exact h)
    go_wp2_with fail
    with_reducible refine (HLO.out _ (by repeat (first | exact Fr.refl _ _ | apply Fr.drewN | apply Fr.drew))).mono ?_
    rintro x1 w1 ⟨rfl, n1, hw1⟩
    have F1 := Lib.hid (drewN_fr (by repeat (first | exact F0.out | apply Fr.drewN | apply Fr.drew)) hw1)
    clear hw1
    go_wp2_with fail
    go_ret2
    exact close0 HB.out F1.out

set_option maxRecDepth 100000 in
set_option maxHeartbeats 12800000 in
theorem len_in (B g N : Nat) (v vm : Value) (L M : List Ln) (kd : Int) (k : Nat) (a : Int) (w : World) (hb : Both w B g v L vm M N) (hN : N ≤ 999999) (h1 : kd ≠ 1) (h2 : kd ≠ 2) (h3 : kd ≠ 3) (hk : k < L.length) :
    Calls Try.prog 19 #[.pointer (some ⟨g, 0, none⟩), vm, .agg #[.int .i64 kd, .int .i64 k, .int .i64 a]] w (StepPost B g v L N w) := by
  obtain ⟨A, c, rfl, _⟩ := own_slice hb.mem.own
  have HB := Lib.hid hb
  have HLEN := Lib.hid hb.len
  have HN := Lib.hid hN
  have h8 := hb.buf.len
  have hkM : k < M.length := by rw [hb.len]; exact hk
  obtain ⟨dm, cm, he, x0, _, hdm, _⟩ := hb.mem.slot k hkM
  injection he with he hmid he3
  subst he he3
  clear hmid
  have hrow := hb.mem.row _ (List.getElem_mem hkM)
  have hat := List.getElem?_eq_getElem hkM
  have hxs := dat_at hb.same k hkM hk
  have hRF : ∀ j, (M[k]).1.ownBlock = some j → RFoot (.slice (some ⟨dm, 0, none⟩) M.length c) M j := fun j hj => .inr ⟨_, List.getElem_mem hkM, hj⟩
  have hle : (L[k]).2.length ≤ N := hb.tot _ (List.mem_map.2 ⟨_, List.getElem_mem hk, rfl⟩)
  generalize M[k] = p at x0 hrow hat hxs hRF
  obtain ⟨pv, xs⟩ := p
  dsimp only at x0 hrow hat hxs hRF
  obtain ⟨A2, c2, rfl, hcc⟩ := hrow.slice
  obtain ⟨q, hq⟩ : ∃ q, q = xs.length := ⟨_, rfl⟩
  have HROW := Lib.hid hrow
  have HRX : Hid (∀ W, Fr No w W → Rd W (.slice A2 q c2) q 1 (ints xs)) := Lib.hid (fun W hW => by rw [hq]; exact (hrow.fr hW (fun _ _ h => h)).rd)
  rw [← hq] at x0 HROW hRF
  have HRY : Hid (∀ W, Fr No w W → Rd W (.slice A2 q c2) xs.length 1 (ints xs)) := Lib.hid (fun W hW => by rw [hq]; exact (hrow.fr hW (fun _ _ h => h)).rd)
  have HQ := Lib.hid hq
  have HXS := Lib.hid hxs
  have HAT := Lib.hid hat
  have HRF := Lib.hid hRF
  have hxl : xs.length ≤ 999999 := by rw [hxs]; omega
  have HXL := Lib.hid hxl
  have HK := Lib.hid hk
  have HGI := Lib.hid (getI_in L k hk)
  have i1 : (0 : Int) ≤ (k : Int) := Int.natCast_nonneg _
  clear hrow hat hxs hle hq hcc hxl hRF
  obtain ⟨n, hn⟩ : ∃ n, n = M.length := ⟨_, rfl⟩
  rw [← hn] at HB ⊢
  have HM := Lib.hid hn
  have hLn : L.length = n := by rw [hn]; exact hb.len.symm
  have HLN := Lib.hid hLn
  clear hb hn hN
  go_enter Try.func19, Try.ntmps19
  go_upto_region 1 with (fail)
  have F0 := Lib.hid ((Fr.refl No w).alloc (.cells #[.int .i64 kd, .int .i64 k, .int .i64 a] 46))
  have X0 := Lib.hid (heap_alloc_new w (.cells #[.int .i64 kd, .int .i64 k, .int .i64 a] 46))
  have hz0 : (w.alloc (.cells #[.int .i64 kd, .int .i64 k, .int .i64 a] 46)).heap.size = w.heap.size + 1 := by simp
  generalize w.alloc (.cells #[.int .i64 kd, .int .i64 k, .int .i64 a] 46) = w0 at F0 X0 hz0 ⊢
  have B0 := Lib.hid (HB.out.no F0.out)
  have b0 := cell_of X0.out 0
  have b1 := cell_of X0.out 1
  have b2 := cell_of X0.out 2
  have n0 := World.new_ne w0 _ b0
  have e1 : (kd == 1) = false := by simpa using h1
  have e2 : (kd == 2) = false := by simpa using h2
  have e3 : (kd == 3) = false := by simpa using h3
  clear h1 h2 h3
  have i2 : (k : Int) < (n : Int) := by have := HK.out; omega
  have y0 : w0.cell? ⟨dm, k, none⟩ = some (.slice A2 q c2) := F0.out.cell x0 (fun h => h)
  have g1 : decide (0 ≤ (k : Int)) = true := by simp
  have g2 : decide ((k : Int) < (n : Int)) = true := by simpa using i2
  clear x0 hkM

  have HLO : Hid (∀ W, Fr No w0 W → Calls Try.prog 18 #[.pointer (some ⟨g, 0, none⟩), .int .i64 k] W (Quiet W (.int .i64 q))) := Lib.hid (fun W hW => by
    have h := len_any B g v L k W (B0.out.no hW).buf
    rw [HGI.out, ← HXS.out, ← HQ.out] at h
    exact h)
  go_wp2
  go_quiet ((go_at_call 18; exact Calls.quiet_of (HLO.out _ (by repeat (first | exact Fr.refl _ _ | apply Fr.drewN | apply Fr.drew)))))
  go_wp2_with fail
  go_ret2
  exact close0 HB.out (by repeat (first | exact F0.out | apply Fr.drewN | apply Fr.drew))

set_option maxRecDepth 100000 in
set_option maxHeartbeats 12800000 in
theorem take_in2 (B g N : Nat) (v vm : Value) (L M : List Ln) (k : Nat) (a : Int) (w : World) (hb : Both w B g v L vm M N) (hN : N ≤ 999999) (hk : k < L.length) :
    Calls Try.prog 19 #[.pointer (some ⟨g, 0, none⟩), vm, .agg #[.int .i64 2, .int .i64 k, .int .i64 a]] w (StepPost B g v L N w) := by
  obtain ⟨A, c, rfl, _⟩ := own_slice hb.mem.own
  have HB := Lib.hid hb
  have HLEN := Lib.hid hb.len
  have HN := Lib.hid hN
  have h8 := hb.buf.len
  have hkM : k < M.length := by rw [hb.len]; exact hk
  obtain ⟨dm, cm, he, x0, _, hdm, _⟩ := hb.mem.slot k hkM
  injection he with he hmid he3
  subst he he3
  clear hmid
  have hrow := hb.mem.row _ (List.getElem_mem hkM)
  have hat := List.getElem?_eq_getElem hkM
  have hxs := dat_at hb.same k hkM hk
  have hRF : ∀ j, (M[k]).1.ownBlock = some j → RFoot (.slice (some ⟨dm, 0, none⟩) M.length c) M j := fun j hj => .inr ⟨_, List.getElem_mem hkM, hj⟩
  have hle : (L[k]).2.length ≤ N := hb.tot _ (List.mem_map.2 ⟨_, List.getElem_mem hk, rfl⟩)
  generalize M[k] = p at x0 hrow hat hxs hRF
  obtain ⟨pv, xs⟩ := p
  dsimp only at x0 hrow hat hxs hRF
  obtain ⟨A2, c2, rfl, hcc⟩ := hrow.slice
  obtain ⟨q, hq⟩ : ∃ q, q = xs.length := ⟨_, rfl⟩
  have HROW := Lib.hid hrow
  have HRX : Hid (∀ W, Fr No w W → Rd W (.slice A2 q c2) q 1 (ints xs)) := Lib.hid (fun W hW => by rw [hq]; exact (hrow.fr hW (fun _ _ h => h)).rd)
  rw [← hq] at x0 HROW hRF
  have HRY : Hid (∀ W, Fr No w W → Rd W (.slice A2 q c2) xs.length 1 (ints xs)) := Lib.hid (fun W hW => by rw [hq]; exact (hrow.fr hW (fun _ _ h => h)).rd)
  have HQ := Lib.hid hq
  have HXS := Lib.hid hxs
  have HAT := Lib.hid hat
  have HRF := Lib.hid hRF
  have hxl : xs.length ≤ 999999 := by rw [hxs]; omega
  have HXL := Lib.hid hxl
  have HK := Lib.hid hk
  have HGI := Lib.hid (getI_in L k hk)
  have i1 : (0 : Int) ≤ (k : Int) := Int.natCast_nonneg _
  clear hrow hat hxs hle hq hcc hxl hRF
  obtain ⟨n, hn⟩ : ∃ n, n = M.length := ⟨_, rfl⟩
  rw [← hn] at HB ⊢
  have HM := Lib.hid hn
  have hLn : L.length = n := by rw [hn]; exact hb.len.symm
  have HLN := Lib.hid hLn
  clear hb hn hN
  go_enter Try.func19, Try.ntmps19
  go_upto_region 1 with (fail)
  have F0 := Lib.hid ((Fr.refl No w).alloc (.cells #[.int .i64 2, .int .i64 k, .int .i64 a] 46))
  have X0 := Lib.hid (heap_alloc_new w (.cells #[.int .i64 2, .int .i64 k, .int .i64 a] 46))
  have hz0 : (w.alloc (.cells #[.int .i64 2, .int .i64 k, .int .i64 a] 46)).heap.size = w.heap.size + 1 := by simp
  generalize w.alloc (.cells #[.int .i64 2, .int .i64 k, .int .i64 a] 46) = w0 at F0 X0 hz0 ⊢
  have B0 := Lib.hid (HB.out.no F0.out)
  have b0 := cell_of X0.out 0
  have b1 := cell_of X0.out 1
  have b2 := cell_of X0.out 2
  have n0 := World.new_ne w0 _ b0
  have i2 : (k : Int) < (n : Int) := by have := HK.out; omega
  have y0 : w0.cell? ⟨dm, k, none⟩ = some (.slice A2 q c2) := F0.out.cell x0 (fun h => h)
  have g1 : decide (0 ≤ (k : Int)) = true := by simp
  have g2 : decide ((k : Int) < (n : Int)) = true := by simpa using i2
  clear x0 hkM

  have HNB := Lib.hid (show ¬ Foot g v L w.heap.size from fun h => by have := (HB.out.buf.foot_lt _ h).2; omega)
  have HND := Lib.hid (show ¬ Foot g v L dm from fun h => HB.out.sep dm (.inl rfl) h)
  have HMK : Hid (k < M.length) := Lib.hid (by have := HM.out; omega)
  have HM8 : Hid (M.length ≤ 8) := Lib.hid (by have := HM.out; omega)
  have HTD : Hid (takeD (dat L) (k : Int) = (dat L).set k []) := Lib.hid (by unfold takeD inD; rw [if_pos (by rw [dat_length]; simp; exact HK.out)]; rfl)
  have ny0 := World.new_ne w0 _ y0
  go_wp2_with fail
  go_region_held3 (fun W => W.cell? ⟨w.heap.size, 1, none⟩ = some (.int .i64 k) ∧ W.cell? ⟨dm, k, none⟩ = some (.slice A2 q c2)) (((try go_split_ands); refine ⟨?_, ?_⟩ <;> (first | with_reducible assumption | (go_keep; done))))
    ((first
      | (go_at_call 29; (with_reducible refine (set_any B _ M k HMK.out none 0 0 [] _ (B0.out.no (by repeat (first | exact Fr.refl _ _ | apply Fr.drewN | apply Fr.drew))).mem HM8.out).mono ?_); rintro x7 w7 ⟨v7, rfl, ho7, hb7⟩; obtain ⟨A7, c7, rfl, _⟩ := own_slice ho7; obtain ⟨n7, hn7⟩ : ∃ n7, n7 = (M.set k (.slice none 0 0, ([] : List Int))).length := ⟨_, rfl⟩; have F7 := Lib.hid (show Fr No w0 w7 from Fr.then_below (by repeat (first | exact Fr.refl _ _ | apply Fr.drewN | apply Fr.drew)) hb7); have R7 := Lib.hid (show w7.ownsRow _ 32 1 (.slice A7 n7 c7) (M.set k (.slice none 0 0, ([] : List Int))).length ((M.set k (.slice none 0 0, ([] : List Int))).map (·.1)) from by rw [hn7]; exact ho7); have c71 : w7.cell? ⟨w.heap.size, 1, none⟩ = some (.int .i64 k) := cell_of (F7.out.blk X0.out (fun h => h)) 1; have c72 : w7.cell? ⟨dm, k, none⟩ = some (.slice A2 q c2) := F7.out.cell y0 (fun h => h); have nw7 := World.new_ne w7 _ c71; have ny7 := World.new_ne w7 _ c72; rw [← hn7]; clear ho7 hb7 hn7)
      | (go_at_call 12; (with_reducible refine (take_any B g v L (k : Int) _ (B0.out.no (by repeat (first | exact F7.out | apply Fr.drewN | apply Fr.drew))).buf).mono ?_); rintro x8 w8 ⟨u8, L8, rfl, ho8, hd8, hb8, hf8, hm8, hq8⟩; rw [HGI.out, ← HXS.out] at ho8; rw [HTD.out] at hd8; obtain ⟨A8, c8, rfl, _⟩ := ho8.slice; obtain ⟨q8, hq8'⟩ : ∃ q8, q8 = xs.length := ⟨_, rfl⟩; have F78 := Lib.hid (show Fr (Foot g v L) w7 w8 from Fr.trans (by repeat (first | exact Fr.refl _ _ | apply Fr.drewN | apply Fr.drew)) hf8 (fun i hi => .inl hi)); have F8 := Lib.hid (show Fr (Foot g v L) w0 w8 from (F7.out.mono (fun _ h => h.elim)).trans F78.out (fun i hi => .inl hi)); have F8w := Lib.hid (show Fr (Foot g v L) w w8 from (F0.out.mono (fun _ h => h.elim)).trans F8.out (fun i hi => .inl hi)); have D8 := Lib.hid hd8; have B8 := Lib.hid hb8; have M8 := Lib.hid hm8; have HR8 : Hid (∀ W, Fr No w8 W → Rd W (.slice A2 q c2) q 1 (ints xs)) := Lib.hid (fun W hW => by have h := ((HROW.out.fr F8w.out (fun j hj => HB.out.sep j (HRF.out j hj))).fr hW (fun _ _ h => h)).rd; rw [← HQ.out] at h; exact h); have HU8 : Hid (∀ W, Fr No w8 W → Rd W (.slice A8 q8 c8) q8 1 (ints xs)) := Lib.hid (fun W hW => by have h := (ho8.fr hW (fun _ _ h => h)).rd; rw [← hq8'] at h; exact h); have HQ8 := Lib.hid hq8'; have c81 : w8.cell? ⟨w.heap.size, 1, none⟩ = some (.int .i64 k) := cell_of (F8.out.blk X0.out HNB.out) 1; have c82 : w8.cell? ⟨dm, k, none⟩ = some (.slice A2 q c2) := F8.out.cell y0 HND.out; have nw8 := World.new_ne w8 _ c81; have ny8 := World.new_ne w8 _ c82; rw [← hq8']; clear ho8 hd8 hb8 hf8 hm8 hq8 hq8')
      | (go_at_call 13; (with_reducible refine (same_any A8 A2 q8 q c8 c2 xs HQ8.out HQ.out _ (HU8.out _ (by repeat (first | exact Fr.refl _ _ | apply Fr.drewN | apply Fr.drew))) (HR8.out _ (by repeat (first | exact Fr.refl _ _ | apply Fr.drewN | apply Fr.drew))) (by have := HXL.out; omega)).mono ?_); rintro x9 w9 ⟨rfl, n9, hw9⟩; have F9 := Lib.hid (show Fr No w8 w9 from drewN_fr (by repeat (first | exact Fr.refl _ _ | apply Fr.drewN | apply Fr.drew)) hw9); have c91 : w9.cell? ⟨w.heap.size, 1, none⟩ = some (.int .i64 k) := F9.out.cell c81 (fun h => h); have c92 : w9.cell? ⟨dm, k, none⟩ = some (.slice A2 q c2) := F9.out.cell c82 (fun h => h); have nw9 := World.new_ne w9 _ c91; have ny9 := World.new_ne w9 _ c92; clear hw9)))
  all_goals
    go_wp2_with fail
    go_ret2
    exact close HB.out ((F0.out.trans F7.out (fun i (h : No i) => h.elim))) (rows_set (w0 := w0) (B0.out.no F7.out).mem (Own.nil _ _) (Buffer.own_lower (B' := B) R7.out (by have := HB.out.buf.base; have := (HB.out.buf.foot_lt g (.inl rfl)).2; have := F0.out.size; simp; omega)))
      (rfoot_set (P := fun b => w.heap.size ≤ b) (fun b hb => by have h := (World.ownsRow.lt R7.out b hb).1; simp at h; omega) (fun b hb => by cases hb)) B8.out F78.out (fun j hj => .inl (M8.out j hj)) (by repeat (first | exact F9.out | exact Fr.refl _ _ | apply Fr.drewN | apply Fr.drew))
      (by rw [D8.out, dat_set, HB.out.same]) (by rw [D8.out]; exact tot_set HB.out.tot (by simp))

theorem dat_nil {n : Nat} {D : List (List Int)} (h : D = List.replicate n []) (N : Nat) : ∀ p ∈ D, p.length ≤ N := by
  intro p hp
  rw [h] at hp
  obtain rfl := List.eq_of_mem_replicate hp
  simp
theorem closeC {w w8 wE : World} {B g N n b : Nat} {v vm : Value} {L L8 M : List Ln} (hb : Both w B g v L vm M N) (F8 : Fr (Foot g v L) w w8) (B8 : Bufs w8 B g v L8) (FE : Fr No w8 wE) (D8 : dat L8 = List.replicate n [])
    (R : Buffer.Rows wE B (.slice (some ⟨b, 0, none⟩) n n) (List.replicate n none_)) (hn : ¬ Foot g v L8 b) (mv : ∀ j, Foot g v L8 j → Foot g v L j ∨ w.heap.size ≤ j) :
    StepPost B g v L N w (.returned (.tuple #[.slice (some ⟨b, 0, none⟩) n n, .bool true])) wE := by
  refine ⟨_, L8, List.replicate n none_, rfl, ⟨B8.no FE, R, fun k hk hf => ?_, by rw [D8]; exact dat_none n, dat_nil D8 _⟩, F8.trans FE (fun i (h : No i) => h.elim), mv⟩
  rcases hk with h | ⟨p, hp, h⟩
  · simp [Value.ownBlock] at h
    subst h
    exact hn hf
  · obtain rfl := List.eq_of_mem_replicate hp
    cases h
theorem rfoot_none {v' : Value} {n : Nat} : ∀ b, RFoot v' (List.replicate n none_) b → v'.ownBlock = some b := by
  rintro b (h | ⟨p, hp, h⟩)
  · exact h
  · obtain rfl := List.eq_of_mem_replicate hp
    cases h

set_option maxRecDepth 100000 in
set_option maxHeartbeats 12800000 in
theorem clear3 (B g N : Nat) (v vm : Value) (L M : List Ln) (t : Int) (a : Int) (w : World) (hb : Both w B g v L vm M N) (hN : N ≤ 999999) :
    Calls Try.prog 19 #[.pointer (some ⟨g, 0, none⟩), vm, .agg #[.int .i64 3, .int .i64 t, .int .i64 a]] w (StepPost B g v L N w) := by
  obtain ⟨A, c, rfl, _⟩ := own_slice hb.mem.own
  have HB := Lib.hid hb
  have HLEN := Lib.hid hb.len
  have HN := Lib.hid hN
  have h8 := hb.buf.len
  obtain ⟨n, hn⟩ : ∃ n, n = M.length := ⟨_, rfl⟩
  rw [← hn] at HB ⊢
  have HM := Lib.hid hn
  have hLn : L.length = n := by rw [hn]; exact hb.len.symm
  have HLN := Lib.hid hLn
  clear hb hn hN
  go_enter Try.func19, Try.ntmps19
  go_upto_region 1 with (fail)
  have F0 := Lib.hid ((Fr.refl No w).alloc (.cells #[.int .i64 3, .int .i64 t, .int .i64 a] 46))
  have X0 := Lib.hid (heap_alloc_new w (.cells #[.int .i64 3, .int .i64 t, .int .i64 a] 46))
  have hz0 : (w.alloc (.cells #[.int .i64 3, .int .i64 t, .int .i64 a] 46)).heap.size = w.heap.size + 1 := by simp
  generalize w.alloc (.cells #[.int .i64 3, .int .i64 t, .int .i64 a] 46) = w0 at F0 X0 hz0 ⊢
  have B0 := Lib.hid (HB.out.no F0.out)
  have b0 := cell_of X0.out 0
  have b1 := cell_of X0.out 1
  have b2 := cell_of X0.out 2
  have n0 := World.new_ne w0 _ b0
  have HNB := Lib.hid (show ¬ Foot g v L w.heap.size from fun h => by have := (HB.out.buf.foot_lt _ h).2; omega)
  have HM8 : Hid (M.length ≤ 8) := Lib.hid (by have := HM.out; omega)
  obtain ⟨s, hs⟩ : ∃ s, s = sumD (dat L) := ⟨_, rfl⟩
  have HCL : Hid (∀ W, Bufs W B g v L → Calls Try.prog 15 #[.pointer (some ⟨g, 0, none⟩)] W (Post B g v L (List.replicate n []) (.int .i64 s) W)) := Lib.hid (fun W hW => by
    have h := clear_any B g v L (fun p hp => Nat.le_trans (HB.out.tot p hp) (by have := HN.out; omega)) W hW
    rw [← hs, HLN.out] at h
    exact h)
  have HSU : Hid (∀ W, Buffer.Rows W B (.slice A n c) M → Calls Try.prog 20 #[.slice A n c] W (Quiet W (.int .i64 s))) := Lib.hid (fun W hW => by
    have h := sum_any B _ M W hW HM8.out (by rw [HB.out.same]; exact fun p hp => Nat.le_trans (HB.out.tot p hp) (by have := HN.out; omega))
    rw [HB.out.same, ← hs] at h
    exact h)
  have hmk := run_rows n (by omega)
  have HMC := Lib.hid (made_rows n)
  have HN8 : Hid (n ≤ 8) := Lib.hid (by omega)
  generalize madeCells (Value.slice none 0 0).cells (n * 1) = mc at hmk HMC
  clear hs
  have hnn : (0 : Int) ≤ (n : Int) := Int.natCast_nonneg _
  by_cases h1 : t < 0
  · have g1 : decide (0 ≤ t) = false := by simp; omega
    clear h1
    go_wp2_with fail
    go_region_held3 (fun W => W.cell? ⟨w.heap.size, 1, none⟩ = some (.int .i64 t) ∧ W.cell? ⟨w.heap.size, 2, none⟩ = some (.int .i64 a)) (((try go_split_ands); refine ⟨?_, ?_⟩ <;> (first | with_reducible assumption | (go_keep; done))))
      ((first
        | (go_at_call 15; (with_reducible refine (HCL.out _ (B0.out.no (by repeat (first | exact Fr.refl _ _ | apply Fr.drewN | apply Fr.drew | apply Fr.alloc))).buf).mono ?_); rintro x8 w8 ⟨L8, rfl, hd8, hb8, hf8, hm8⟩; have F8 := Lib.hid (show Fr (Foot g v L) w0 w8 from Fr.trans (by repeat (first | exact Fr.refl _ _ | apply Fr.drewN | apply Fr.drew | apply Fr.alloc)) hf8 (fun i hi => .inl hi)); have F8w := Lib.hid (show Fr (Foot g v L) w w8 from (F0.out.mono (fun _ h => h.elim)).trans F8.out (fun i hi => .inl hi)); (try (have z8 : w8.heap[w0.heap.size]? = some (.cells mc 32 (0, 0)) := hf8.blk (heap_alloc_new w0 _) (fun h => by have := (HB.out.buf.foot_lt _ h).2; omega); have Z8 := Lib.hid z8; clear z8)); have D8 := Lib.hid hd8; have B8 := Lib.hid hb8; have M8 := Lib.hid (show ∀ j, Foot g v L8 j → Foot g v L j ∨ w0.heap.size ≤ j from fun j hj => (hm8 j hj).imp id (fun h => by simp at h; omega)); (try (have hm8z : ∀ j, Foot g v L8 j → Foot g v L j ∨ w0.heap.size + 1 ≤ j := (fun j hj => (hm8 j hj).imp id (fun h => by simp at h; omega)); have MZ8 := Lib.hid hm8z; clear hm8z)); have c81 : w8.cell? ⟨w.heap.size, 1, none⟩ = some (.int .i64 t) := cell_of (F8.out.blk X0.out HNB.out) 1; have c82 : w8.cell? ⟨w.heap.size, 2, none⟩ = some (.int .i64 a) := cell_of (F8.out.blk X0.out HNB.out) 2; have nw8 := World.new_ne w8 _ c81; clear hd8 hb8 hf8 hm8)
        | (go_at_call 20; (with_reducible refine (HSU.out _ (HB.out.mem.fr (S := Foot g v L) (by repeat (first | exact F8w.out | apply Fr.drewN | apply Fr.drew | apply Fr.alloc)) HB.out.sep)).mono ?_); rintro x9 w9 ⟨rfl, n9, hw9⟩; have F9 := Lib.hid (show Fr No w8 w9 from drewN_fr (by repeat (first | exact Fr.refl _ _ | apply Fr.drewN | apply Fr.drew | apply Fr.alloc)) hw9); (try (have z9 : w9.heap[w8.heap.size]? = some (.cells mc 32 (0, 0)) := (by rw [hw9]; exact heap_alloc_new w8 _); have Z9 := Lib.hid z9; clear z9)); have c91 : w9.cell? ⟨w.heap.size, 1, none⟩ = some (.int .i64 t) := F9.out.cell c81 (fun h => h); have c92 : w9.cell? ⟨w.heap.size, 2, none⟩ = some (.int .i64 a) := F9.out.cell c82 (fun h => h); have nw9 := World.new_ne w9 _ c91; have HZ9 := Lib.hid F9.out.size; clear hw9)))
    all_goals
      go_wp2_with fail
      go_ret2
      first
      | exact closeC HB.out F8w.out B8.out (by repeat (first | exact F9.out | exact Fr.refl _ _ | apply Fr.drewN | apply Fr.drew | apply Fr.alloc)) D8.out (by rw [← hz0]; exact made_own w0 B n (by have := HB.out.buf.base; have := (HB.out.buf.foot_lt g (.inl rfl)).2; have := F8w.out.size; have := F9.out.size; omega) HN8.out mc HMC.out _ (Fr.blk (S := No) (w := w8) (by repeat (first | exact F9.out | exact Fr.refl _ _ | apply Fr.drewN | apply Fr.drew | apply Fr.alloc)) Z8.out (fun h => h))) (by rw [← hz0]; exact fun h => (MZ8.out _ h).elim (fun h => by have := (HB.out.buf.foot_lt _ h).2; omega) (fun h => by omega)) (fun j hj => (M8.out j hj).imp id (fun h => by omega))
      | exact closeC HB.out F8w.out B8.out (by repeat (first | exact F9.out | exact Fr.refl _ _ | apply Fr.drewN | apply Fr.drew | apply Fr.alloc)) D8.out (made_own w8 B n (by have := HB.out.buf.base; have := (HB.out.buf.foot_lt g (.inl rfl)).2; have := F8w.out.size; have := F9.out.size; omega) HN8.out mc HMC.out _ (Fr.blk (S := No) (w := w9) (by repeat (first | exact Fr.refl _ _ | apply Fr.drewN | apply Fr.drew | apply Fr.alloc)) Z9.out (fun h => h))) (fun h => by have := (B8.out.foot_lt _ h).2; omega) (fun j hj => (M8.out j hj).imp id (fun h => by omega))
      | exact closeC HB.out F8w.out B8.out (by repeat (first | exact F9.out | exact Fr.refl _ _ | apply Fr.drewN | apply Fr.drew | apply Fr.alloc)) D8.out (made_own w9 B n (by have := HB.out.buf.base; have := (HB.out.buf.foot_lt g (.inl rfl)).2; have := F8w.out.size; have := F9.out.size; omega) HN8.out mc HMC.out _ (heap_alloc_new w9 _)) (fun h => by have := (B8.out.foot_lt _ h).2; have := HZ9.out; omega) (fun j hj => (M8.out j hj).imp id (fun h => by omega))
  by_cases h2 : (n : Int) ≤ t
  · have g1 : decide (0 ≤ t) = true := by simp; omega
    have g2 : decide (t < (n : Int)) = false := by simp; omega
    clear h1 h2
    go_wp2_with fail
    go_region_held3 (fun W => W.cell? ⟨w.heap.size, 1, none⟩ = some (.int .i64 t) ∧ W.cell? ⟨w.heap.size, 2, none⟩ = some (.int .i64 a)) (((try go_split_ands); refine ⟨?_, ?_⟩ <;> (first | with_reducible assumption | (go_keep; done))))
      ((first
        | (go_at_call 15; (with_reducible refine (HCL.out _ (B0.out.no (by repeat (first | exact Fr.refl _ _ | apply Fr.drewN | apply Fr.drew | apply Fr.alloc))).buf).mono ?_); rintro x8 w8 ⟨L8, rfl, hd8, hb8, hf8, hm8⟩; have F8 := Lib.hid (show Fr (Foot g v L) w0 w8 from Fr.trans (by repeat (first | exact Fr.refl _ _ | apply Fr.drewN | apply Fr.drew | apply Fr.alloc)) hf8 (fun i hi => .inl hi)); have F8w := Lib.hid (show Fr (Foot g v L) w w8 from (F0.out.mono (fun _ h => h.elim)).trans F8.out (fun i hi => .inl hi)); (try (have z8 : w8.heap[w0.heap.size]? = some (.cells mc 32 (0, 0)) := hf8.blk (heap_alloc_new w0 _) (fun h => by have := (HB.out.buf.foot_lt _ h).2; omega); have Z8 := Lib.hid z8; clear z8)); have D8 := Lib.hid hd8; have B8 := Lib.hid hb8; have M8 := Lib.hid (show ∀ j, Foot g v L8 j → Foot g v L j ∨ w0.heap.size ≤ j from fun j hj => (hm8 j hj).imp id (fun h => by simp at h; omega)); (try (have hm8z : ∀ j, Foot g v L8 j → Foot g v L j ∨ w0.heap.size + 1 ≤ j := (fun j hj => (hm8 j hj).imp id (fun h => by simp at h; omega)); have MZ8 := Lib.hid hm8z; clear hm8z)); have c81 : w8.cell? ⟨w.heap.size, 1, none⟩ = some (.int .i64 t) := cell_of (F8.out.blk X0.out HNB.out) 1; have c82 : w8.cell? ⟨w.heap.size, 2, none⟩ = some (.int .i64 a) := cell_of (F8.out.blk X0.out HNB.out) 2; have nw8 := World.new_ne w8 _ c81; clear hd8 hb8 hf8 hm8)
        | (go_at_call 20; (with_reducible refine (HSU.out _ (HB.out.mem.fr (S := Foot g v L) (by repeat (first | exact F8w.out | apply Fr.drewN | apply Fr.drew | apply Fr.alloc)) HB.out.sep)).mono ?_); rintro x9 w9 ⟨rfl, n9, hw9⟩; have F9 := Lib.hid (show Fr No w8 w9 from drewN_fr (by repeat (first | exact Fr.refl _ _ | apply Fr.drewN | apply Fr.drew | apply Fr.alloc)) hw9); (try (have z9 : w9.heap[w8.heap.size]? = some (.cells mc 32 (0, 0)) := (by rw [hw9]; exact heap_alloc_new w8 _); have Z9 := Lib.hid z9; clear z9)); have c91 : w9.cell? ⟨w.heap.size, 1, none⟩ = some (.int .i64 t) := F9.out.cell c81 (fun h => h); have c92 : w9.cell? ⟨w.heap.size, 2, none⟩ = some (.int .i64 a) := F9.out.cell c82 (fun h => h); have nw9 := World.new_ne w9 _ c91; have HZ9 := Lib.hid F9.out.size; clear hw9)))
    all_goals
      go_wp2_with fail
      go_ret2
      first
      | exact closeC HB.out F8w.out B8.out (by repeat (first | exact F9.out | exact Fr.refl _ _ | apply Fr.drewN | apply Fr.drew | apply Fr.alloc)) D8.out (by rw [← hz0]; exact made_own w0 B n (by have := HB.out.buf.base; have := (HB.out.buf.foot_lt g (.inl rfl)).2; have := F8w.out.size; have := F9.out.size; omega) HN8.out mc HMC.out _ (Fr.blk (S := No) (w := w8) (by repeat (first | exact F9.out | exact Fr.refl _ _ | apply Fr.drewN | apply Fr.drew | apply Fr.alloc)) Z8.out (fun h => h))) (by rw [← hz0]; exact fun h => (MZ8.out _ h).elim (fun h => by have := (HB.out.buf.foot_lt _ h).2; omega) (fun h => by omega)) (fun j hj => (M8.out j hj).imp id (fun h => by omega))
      | exact closeC HB.out F8w.out B8.out (by repeat (first | exact F9.out | exact Fr.refl _ _ | apply Fr.drewN | apply Fr.drew | apply Fr.alloc)) D8.out (made_own w8 B n (by have := HB.out.buf.base; have := (HB.out.buf.foot_lt g (.inl rfl)).2; have := F8w.out.size; have := F9.out.size; omega) HN8.out mc HMC.out _ (Fr.blk (S := No) (w := w9) (by repeat (first | exact Fr.refl _ _ | apply Fr.drewN | apply Fr.drew | apply Fr.alloc)) Z9.out (fun h => h))) (fun h => by have := (B8.out.foot_lt _ h).2; omega) (fun j hj => (M8.out j hj).imp id (fun h => by omega))
      | exact closeC HB.out F8w.out B8.out (by repeat (first | exact F9.out | exact Fr.refl _ _ | apply Fr.drewN | apply Fr.drew | apply Fr.alloc)) D8.out (made_own w9 B n (by have := HB.out.buf.base; have := (HB.out.buf.foot_lt g (.inl rfl)).2; have := F8w.out.size; have := F9.out.size; omega) HN8.out mc HMC.out _ (heap_alloc_new w9 _)) (fun h => by have := (B8.out.foot_lt _ h).2; have := HZ9.out; omega) (fun j hj => (M8.out j hj).imp id (fun h => by omega))
  have g1 : decide (0 ≤ t) = true := by simp; omega
  have g2 : decide (t < (n : Int)) = true := by simp; omega
  clear h1 h2
  go_wp2_with fail
  go_region_held3 (fun W => W.cell? ⟨w.heap.size, 1, none⟩ = some (.int .i64 t) ∧ W.cell? ⟨w.heap.size, 2, none⟩ = some (.int .i64 a)) (((try go_split_ands); refine ⟨?_, ?_⟩ <;> (first | with_reducible assumption | (go_keep; done))))
    ((first
      | (go_at_call 15; (with_reducible refine (HCL.out _ (B0.out.no (by repeat (first | exact Fr.refl _ _ | apply Fr.drewN | apply Fr.drew | apply Fr.alloc))).buf).mono ?_); rintro x8 w8 ⟨L8, rfl, hd8, hb8, hf8, hm8⟩; have F8 := Lib.hid (show Fr (Foot g v L) w0 w8 from Fr.trans (by repeat (first | exact Fr.refl _ _ | apply Fr.drewN | apply Fr.drew | apply Fr.alloc)) hf8 (fun i hi => .inl hi)); have F8w := Lib.hid (show Fr (Foot g v L) w w8 from (F0.out.mono (fun _ h => h.elim)).trans F8.out (fun i hi => .inl hi)); (try (have z8 : w8.heap[w0.heap.size]? = some (.cells mc 32 (0, 0)) := hf8.blk (heap_alloc_new w0 _) (fun h => by have := (HB.out.buf.foot_lt _ h).2; omega); have Z8 := Lib.hid z8; clear z8)); have D8 := Lib.hid hd8; have B8 := Lib.hid hb8; have M8 := Lib.hid (show ∀ j, Foot g v L8 j → Foot g v L j ∨ w0.heap.size ≤ j from fun j hj => (hm8 j hj).imp id (fun h => by simp at h; omega)); (try (have hm8z : ∀ j, Foot g v L8 j → Foot g v L j ∨ w0.heap.size + 1 ≤ j := (fun j hj => (hm8 j hj).imp id (fun h => by simp at h; omega)); have MZ8 := Lib.hid hm8z; clear hm8z)); have c81 : w8.cell? ⟨w.heap.size, 1, none⟩ = some (.int .i64 t) := cell_of (F8.out.blk X0.out HNB.out) 1; have c82 : w8.cell? ⟨w.heap.size, 2, none⟩ = some (.int .i64 a) := cell_of (F8.out.blk X0.out HNB.out) 2; have nw8 := World.new_ne w8 _ c81; clear hd8 hb8 hf8 hm8)
      | (go_at_call 20; (with_reducible refine (HSU.out _ (HB.out.mem.fr (S := Foot g v L) (by repeat (first | exact F8w.out | apply Fr.drewN | apply Fr.drew | apply Fr.alloc)) HB.out.sep)).mono ?_); rintro x9 w9 ⟨rfl, n9, hw9⟩; have F9 := Lib.hid (show Fr No w8 w9 from drewN_fr (by repeat (first | exact Fr.refl _ _ | apply Fr.drewN | apply Fr.drew | apply Fr.alloc)) hw9); (try (have z9 : w9.heap[w8.heap.size]? = some (.cells mc 32 (0, 0)) := (by rw [hw9]; exact heap_alloc_new w8 _); have Z9 := Lib.hid z9; clear z9)); have c91 : w9.cell? ⟨w.heap.size, 1, none⟩ = some (.int .i64 t) := F9.out.cell c81 (fun h => h); have c92 : w9.cell? ⟨w.heap.size, 2, none⟩ = some (.int .i64 a) := F9.out.cell c82 (fun h => h); have nw9 := World.new_ne w9 _ c91; have HZ9 := Lib.hid F9.out.size; clear hw9)))
  all_goals
    go_wp2_with fail
    go_ret2
    first
    | exact closeC HB.out F8w.out B8.out (by repeat (first | exact F9.out | exact Fr.refl _ _ | apply Fr.drewN | apply Fr.drew | apply Fr.alloc)) D8.out (by rw [← hz0]; exact made_own w0 B n (by have := HB.out.buf.base; have := (HB.out.buf.foot_lt g (.inl rfl)).2; have := F8w.out.size; have := F9.out.size; omega) HN8.out mc HMC.out _ (Fr.blk (S := No) (w := w8) (by repeat (first | exact F9.out | exact Fr.refl _ _ | apply Fr.drewN | apply Fr.drew | apply Fr.alloc)) Z8.out (fun h => h))) (by rw [← hz0]; exact fun h => (MZ8.out _ h).elim (fun h => by have := (HB.out.buf.foot_lt _ h).2; omega) (fun h => by omega)) (fun j hj => (M8.out j hj).imp id (fun h => by omega))
    | exact closeC HB.out F8w.out B8.out (by repeat (first | exact F9.out | exact Fr.refl _ _ | apply Fr.drewN | apply Fr.drew | apply Fr.alloc)) D8.out (made_own w8 B n (by have := HB.out.buf.base; have := (HB.out.buf.foot_lt g (.inl rfl)).2; have := F8w.out.size; have := F9.out.size; omega) HN8.out mc HMC.out _ (Fr.blk (S := No) (w := w9) (by repeat (first | exact Fr.refl _ _ | apply Fr.drewN | apply Fr.drew | apply Fr.alloc)) Z9.out (fun h => h))) (fun h => by have := (B8.out.foot_lt _ h).2; omega) (fun j hj => (M8.out j hj).imp id (fun h => by omega))
    | exact closeC HB.out F8w.out B8.out (by repeat (first | exact F9.out | exact Fr.refl _ _ | apply Fr.drewN | apply Fr.drew | apply Fr.alloc)) D8.out (made_own w9 B n (by have := HB.out.buf.base; have := (HB.out.buf.foot_lt g (.inl rfl)).2; have := F8w.out.size; have := F9.out.size; omega) HN8.out mc HMC.out _ (heap_alloc_new w9 _)) (fun h => by have := (B8.out.foot_lt _ h).2; have := HZ9.out; omega) (fun j hj => (M8.out j hj).imp id (fun h => by omega))

end Go.Proofs.Ytmgfidepjclobaa.BufStep
