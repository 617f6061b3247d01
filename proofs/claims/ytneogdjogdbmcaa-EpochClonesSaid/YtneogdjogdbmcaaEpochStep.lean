/- Proved: what one call of a script of package scutagelaw15 does to a registry and to its book, and that they agree. -/
import Derived.Test.YtneogdjogdbmcaaEpochTold
namespace Go.Proofs.Ytneogdjogdbmcaa.EpochStep
open Go.RowKit Go.Proofs.Ytneogdjogdbmcaa.H Go.Proofs.Ytneogdjogdbmcaa.Nums Go.Proofs.Ytneogdjogdbmcaa.Epoch Go.Proofs.Ytneogdjogdbmcaa.EpochLaw
set_option linter.unusedSimpArgs false
set_option linter.unusedVariables false

def StepPost (B g : Nat) (v : Value) (l : List Mb) (e : Int) (w : World) (x : Ending) (w' : World) : Prop :=
  ∃ bv' l' e', x = .returned (.tuple #[.agg #[bv', .int .i64 e'], .bool true]) ∧ Both w' B g v bv' l' e' ∧ Fr (Foot g v) w w' ∧ e' ≤ e + 1

/-- the world behind the first part of a step -/
def SS (w : World) (g : Nat) (v : Value) : Nat → Prop := fun j => j = w.heap.size + 1 + 1 ∨ Foot g v j
def BK (w : World) (A : Option Addr) (n0 c : Nat) (e k t : Int) (W : World) : Prop :=
  W.cell? ⟨w.heap.size, 0, none⟩ = some (.slice A n0 c) ∧ W.cell? ⟨w.heap.size, 1, none⟩ = some (.int .i64 e) ∧ W.cell? ⟨w.heap.size + 1, 0, none⟩ = some (.int .i64 k) ∧ W.cell? ⟨w.heap.size + 1, 1, none⟩ = some (.int .i64 t)

theorem atL_set (l : List Mb) (k : Nat) (a : Bool) (b : Int) : atL (l.set k (a, b)) = (atL l).set k (if a = true then b else -1) := by
  unfold atL
  rw [List.map_set]
theorem close {w w3 w6 wE : World} {B g : Nat} {v bv' : Value} {l l' : List Mb} {e e' : Int} (hft : ∀ k, Foot g v k → B ≤ k ∧ k < w.heap.size) (F3 : Fr No w w3) (F6 : Fr (Foot g v) w3 w6) (hr : Reg w6 B g v l' e') (hrow : Own w6 B bv' (atL l')) (hi : Inv l' e') (he : e' ≤ e + 1)
    (hn : bv'.ownBlock ≠ some (w.heap.size + 1 + 1)) (FE : Fr (fun j => j = w.heap.size + 1 + 1) w6 wE) : StepPost B g v l e w (.returned (.tuple #[.agg #[bv', .int .i64 e'], .bool true])) wE := by
  refine ⟨bv', l', e', rfl, ⟨hr.fr FE (fun k hk h => by have := (hft k hk).2; omega), hrow.fr FE (fun k hk h => hn (by rw [hk, h])), hi⟩, ?_, he⟩
  exact ((F3.mono (fun _ h => h.elim)).trans F6 (fun i hi => .inl hi)).trans FE (fun i hi => .inr (by omega))

theorem inv_set {l : List Mb} {e : Int} (h : Inv l e) (k : Nat) (a : Bool) (b : Int) (hb : a = true → 0 ≤ b ∧ b ≤ e) : Inv (l.set k (a, b)) e := by
  refine ⟨h.e0, h.e1, fun j hj => ?_⟩
  obtain ⟨j', he, hl⟩ := live_lt _ _ hj
  have he : j = j' := by omega
  subst he
  have hl' := hl
  rw [List.length_set] at hl
  rw [ofI_in _ j hl' hj]
  rw [liveB_in _ j hl'] at hj
  by_cases hk : k = j
  · subst hk
    rw [List.getElem_set_self] at hj ⊢
    exact hb hj
  · rw [List.getElem_set_ne hk] at hj ⊢
    have hj2 : liveB l (j : Int) = true := by rw [liveB_in l j hl]; exact hj
    have := h.at0 j hj2
    rw [ofI_in l j hl hj2] at this
    exact this
theorem inv_raise {l : List Mb} {e : Int} (h : Inv l e) (h1 : e < 1000000) : Inv l (e + 1) := ⟨by have := h.e0; omega, by omega, fun k hk => by have := h.at0 k hk; omega⟩

set_option maxRecDepth 100000 in
set_option maxHeartbeats 12800000 in
theorem att_S1 (B g : Nat) (v bv : Value) (l : List Mb) (e t : Int) (w : World) (hs : Both w B g v bv l e) (he : e < 1000000) (ht : t < 0) :
    Calls Try.prog 26 #[.pointer (some ⟨g, 0, none⟩), .agg #[bv, .int .i64 e], .agg #[.int .i64 1, .int .i64 t]] w (StepPost B g v l e w) := by
  obtain ⟨A, c, rfl, _⟩ := hs.row.slice
  obtain ⟨n0, hn0⟩ : ∃ n0, n0 = l.length := ⟨_, rfl⟩
  obtain ⟨y, hy⟩ : ∃ y, y = ofI l t := ⟨_, rfl⟩
  have hyl := ofI_live hs.inv t
  rw [← hy] at hyl
  rw [atL_length, ← hn0]
  have HS := Lib.hid hs
  have HN := Lib.hid hn0
  have HY := Lib.hid hy
  have HE := Lib.hid he
  have hl8 : n0 ≤ 8 := by rw [hn0]; exact hs.reg.len
  have HFT := Lib.hid (show ∀ k, Foot g v k → B ≤ k ∧ k < w.heap.size from fun k hk => hs.reg.foot_lt k hk)
  have HOB : Hid (∀ X : World, Fr No w X → Calls Try.prog 33 #[.agg #[.slice A n0 c, .int .i64 e], .int .i64 t] X (Same X (.int .i64 y))) := Lib.hid (fun X hX => by
    have h := of_book A c l e t X (by have h := (hs.row.fr hX (fun _ _ h => h)).rd; rw [atL_length] at h; exact h)
    rw [← hn0, ← hy] at h
    exact h)
  clear hs hn0 hy he
  go_enter Try.func26, Try.ntmps26
  go_wp2_with fail
  have N0 := heap3_old w (.cells #[.slice A n0 c, .int .i64 e] 26) (.cells #[.int .i64 1, .int .i64 t] 35) (.cells #[.slice none 0 0, .int .i64 0] 26)
  have N1 := heap3_mid w (.cells #[.slice A n0 c, .int .i64 e] 26) (.cells #[.int .i64 1, .int .i64 t] 35) (.cells #[.slice none 0 0, .int .i64 0] 26)
  have N2 := heap3_new w (.cells #[.slice A n0 c, .int .i64 e] 26) (.cells #[.int .i64 1, .int .i64 t] 35) (.cells #[.slice none 0 0, .int .i64 0] 26)
  have FW := Lib.hid ((((Fr.refl No w).alloc (.cells #[.slice A n0 c, .int .i64 e] 26)).alloc (.cells #[.int .i64 1, .int .i64 t] 35)).alloc (.cells #[.slice none 0 0, .int .i64 0] 26))
  have hz : (((w.alloc (.cells #[.slice A n0 c, .int .i64 e] 26)).alloc (.cells #[.int .i64 1, .int .i64 t] 35)).alloc (.cells #[.slice none 0 0, .int .i64 0] 26)).heap.size = w.heap.size + 1 + 1 + 1 := by simp
  generalize ((w.alloc (.cells #[.slice A n0 c, .int .i64 e] 26)).alloc (.cells #[.int .i64 1, .int .i64 t] 35)).alloc (.cells #[.slice none 0 0, .int .i64 0] 26) = w3 at N0 N1 N2 FW hz ⊢
  have HK : Hid (∀ W : World, Fr (SS w g v) w3 W → BK w A n0 c e 1 t W) := Lib.hid (fun W hW => by
    have h0 : ¬ SS w g v w.heap.size := by rintro (h | h); · omega
                                           · have := (HFT.out _ h).2; omega
    have h1 : ¬ SS w g v (w.heap.size + 1) := by rintro (h | h); · omega
                                                 · have := (HFT.out _ h).2; omega
    exact ⟨cell_of (hW.blk N0 h0) 0, cell_of (hW.blk N0 h0) 1, cell_of (hW.blk N1 h1) 0, cell_of (hW.blk N1 h1) 1⟩)
  have HRB : Hid (∀ W : World, Fr (Foot g v) w3 W → W.heap[w.heap.size + 1 + 1]? = some (.cells #[.slice none 0 0, .int .i64 0] 26 (0, 0))) := Lib.hid (fun W hW => hW.blk N2 (fun h => by have := (HFT.out _ h).2; omega))
  clear N0 N1 N2
  obtain ⟨b0, b1, b2, b3⟩ := HK.out w3 (Fr.refl _ _)
  have g3 : decide (0 ≤ y) = liveB l t := hyl
  have HLV := Lib.hid hyl
  clear hyl
  · obtain ⟨k, rfl⟩ : ∃ k, t = Int.negSucc k := Int.eq_negSucc_of_lt_zero ht
    have hlv := liveB_neg l (Int.negSucc k) ht
    have hab : attachB l (Int.negSucc k) = false := by unfold attachB; rw [decide_eq_false (by omega)]; rfl
    have gL : decide (0 ≤ y) = false := by rw [g3]; exact hlv
    clear g3 ht
    have RG := Lib.hid (fun (W : World) (hW : Fr No w3 W) => HS.out.reg.no (FW.out.trans hW (fun i h => h.elim)))
    have HROW := Lib.hid (fun (W : World) (hW : Fr (Foot g v) w3 W) => show Own W B (.slice A n0 c) (atL l) by
      have h := (HS.out.row.fr FW.out (fun _ _ h => h)).fr hW (fun k hk h => HS.out.sep k hk h)
      rw [atL_length, ← HN.out] at h
      exact h)
    have HCT : Hid (∀ W : World, Reg W B g v l e → Calls Try.prog 11 #[.pointer (some ⟨g, 0, none⟩), .int .i64 (Int.negSucc k)] W (PutPost B g v l e (.bool false) W)) := Lib.hid (fun W hW => by
      have h := attach_any B g v l e (Int.negSucc k) W hW
      rw [show attachL l e (Int.negSucc k) = l by unfold attachL; rw [hab]; rfl, hab] at h
      exact h)
    clear hlv hab
    refine wp_region_held_drew (S := (fun W => W.cell? ⟨w.heap.size, 0, none⟩ = some (.slice A n0 c) ∧ W.cell? ⟨w.heap.size, 1, none⟩ = some (.int .i64 e) ∧ W.cell? ⟨w.heap.size + 1, 0, none⟩ = some (.int .i64 1) ∧ W.cell? ⟨w.heap.size + 1, 1, none⟩ = some (.int .i64 (Int.negSucc k)))) (by kernel_rfl) (HK.out _ (Fr.drew (Fr.refl _ _))) (fun hHeld => ?_)
    refine wpAnyH_take (i := 0) (v := ?_) rfl (by kernel_rfl) (by kernel_rfl) (by kernel_rfl) (fun _ _ _ h => h) (Or.inl ⟨by rfl, ?_⟩) (by assumption) ?_
    rotate_left
    · (intro w_ hSw; (try dsimp only at hSw); go_simp; (first | done | with_reducible rfl))
    (try simp only [Act.put, List.setIfInBounds_toArray, List.set_cons_zero, List.set_cons_succ, List.getElem_toArray, List.getElem_cons_succ, List.getElem_cons_zero])
    refine wpAnyH_take (i := 1) (v := ?_) rfl (by kernel_rfl) (by kernel_rfl) (by kernel_rfl) (fun _ _ _ h => h) (Or.inl ⟨by rfl, ?_⟩) (by assumption) ?_
    rotate_left
    · (intro w_ hSw; (try dsimp only at hSw); go_simp; (first | done | with_reducible rfl))
    (try simp only [Act.put, List.setIfInBounds_toArray, List.set_cons_zero, List.set_cons_succ, List.getElem_toArray, List.getElem_cons_succ, List.getElem_cons_zero])
    refine wpAnyH_take (i := 2) (v := ?_) rfl (by kernel_rfl) (by kernel_rfl) (by kernel_rfl) (fun _ _ _ h => h) (Or.inl ⟨by rfl, ?_⟩) (by assumption) ?_
    rotate_left
    · (intro w_ hSw; (try dsimp only at hSw); go_simp; (first | done | with_reducible rfl))
    (try simp only [Act.put, List.setIfInBounds_toArray, List.set_cons_zero, List.set_cons_succ, List.getElem_toArray, List.getElem_cons_succ, List.getElem_cons_zero])
    refine wpAnyH_take (i := 3) (v := ?_) rfl (by kernel_rfl) (by kernel_rfl) (by kernel_rfl) (fun _ _ _ h => h) (Or.inl ⟨by rfl, ?_⟩) (by assumption) ?_
    rotate_left
    · (intro w_ hSw; (try dsimp only at hSw); go_simp; (first | done | with_reducible rfl))
    (try simp only [Act.put, List.setIfInBounds_toArray, List.set_cons_zero, List.set_cons_succ, List.getElem_toArray, List.getElem_cons_succ, List.getElem_cons_zero])
    refine wpAnyH_take (i := 4) (v := undef) rfl (by kernel_rfl) (by kernel_rfl) (by kernel_rfl) (fun _ _ _ h => h) (Or.inr ⟨by rfl, rfl⟩) (by assumption) ?_
    (try simp only [Act.put, List.setIfInBounds_toArray, List.set_cons_zero, List.set_cons_succ, List.getElem_toArray, List.getElem_cons_succ, List.getElem_cons_zero])
    refine wpAnyH_take (i := 5) (v := undef) rfl (by kernel_rfl) (by kernel_rfl) (by kernel_rfl) (fun _ _ _ h => h) (Or.inr ⟨by rfl, rfl⟩) (by assumption) ?_
    (try simp only [Act.put, List.setIfInBounds_toArray, List.set_cons_zero, List.set_cons_succ, List.getElem_toArray, List.getElem_cons_succ, List.getElem_cons_zero])
    refine wpAnyH_take (i := 6) (v := undef) rfl (by kernel_rfl) (by kernel_rfl) (by kernel_rfl) (fun _ _ _ h => h) (Or.inr ⟨by rfl, rfl⟩) (by assumption) ?_
    (try simp only [Act.put, List.setIfInBounds_toArray, List.set_cons_zero, List.set_cons_succ, List.getElem_toArray, List.getElem_cons_succ, List.getElem_cons_zero])
    refine wpAnyH_take (i := 7) (v := undef) rfl (by kernel_rfl) (by kernel_rfl) (by kernel_rfl) (fun _ _ _ h => h) (Or.inr ⟨by rfl, rfl⟩) (by assumption) ?_
    (try simp only [Act.put, List.setIfInBounds_toArray, List.set_cons_zero, List.set_cons_succ, List.getElem_toArray, List.getElem_cons_succ, List.getElem_cons_zero])
    refine wpAnyH_take (i := 8) (v := undef) rfl (by kernel_rfl) (by kernel_rfl) (by kernel_rfl) (fun _ _ _ h => h) (Or.inr ⟨by rfl, rfl⟩) (by assumption) ?_
    (try simp only [Act.put, List.setIfInBounds_toArray, List.set_cons_zero, List.set_cons_succ, List.getElem_toArray, List.getElem_cons_succ, List.getElem_cons_zero])
    refine wpAnyH_take (i := 9) (v := undef) rfl (by kernel_rfl) (by kernel_rfl) (by kernel_rfl) (fun _ _ _ h => h) (Or.inr ⟨by rfl, rfl⟩) (by assumption) ?_
    (try simp only [Act.put, List.setIfInBounds_toArray, List.set_cons_zero, List.set_cons_succ, List.getElem_toArray, List.getElem_cons_succ, List.getElem_cons_zero])
    refine wpAnyH_take (i := 10) (v := ?_) rfl (by kernel_rfl) (by kernel_rfl) (by kernel_rfl) (fun _ _ _ h => h) (Or.inl ⟨by rfl, ?_⟩) (by assumption) ?_
    rotate_left
    · (intro w_ hSw; (try dsimp only at hSw); go_simp; (first | done | with_reducible rfl))
    (try simp only [Act.put, List.setIfInBounds_toArray, List.set_cons_zero, List.set_cons_succ, List.getElem_toArray, List.getElem_cons_succ, List.getElem_cons_zero])
    refine wpAnyH_take (i := 11) (v := ?_) rfl (by kernel_rfl) (by kernel_rfl) (by kernel_rfl) (fun _ _ _ h => h) (Or.inl ⟨by rfl, ?_⟩) (by assumption) ?_
    rotate_left
    · (intro w_ hSw; (try dsimp only at hSw); go_simp; (first | done | with_reducible rfl))
    (try simp only [Act.put, List.setIfInBounds_toArray, List.set_cons_zero, List.set_cons_succ, List.getElem_toArray, List.getElem_cons_succ, List.getElem_cons_zero])
    refine wpAnyH_take (i := 12) (v := ?_) rfl (by kernel_rfl) (by kernel_rfl) (by kernel_rfl) (fun _ _ _ h => h) (Or.inl ⟨by rfl, ?_⟩) (by assumption) ?_
    rotate_left
    · (intro w_ hSw; (try dsimp only at hSw); go_simp; (first | done | with_reducible rfl))
    (try simp only [Act.put, List.setIfInBounds_toArray, List.set_cons_zero, List.set_cons_succ, List.getElem_toArray, List.getElem_cons_succ, List.getElem_cons_zero])
    refine wpAnyH_take (i := 13) (v := ?_) rfl (by kernel_rfl) (by kernel_rfl) (by kernel_rfl) (fun _ _ _ h => h) (Or.inl ⟨by rfl, ?_⟩) (by assumption) ?_
    rotate_left
    · (intro w_ hSw; (try dsimp only at hSw); go_simp; (first | done | with_reducible rfl))
    (try simp only [Act.put, List.setIfInBounds_toArray, List.set_cons_zero, List.set_cons_succ, List.getElem_toArray, List.getElem_cons_succ, List.getElem_cons_zero])
    refine wpAnyH_ready (rs := [14]) (by kernel_rfl) (by simp) ?_
    refine AllReadyH.cons rfl (fun K hK => ?_) AllReadyH.nil
    go_simp
    go_at_call 33
    refine (HOB.out _ (by repeat (first | exact FW.out | apply Fr.drewN | apply Fr.drew))).mono ?_
    rintro x1 w5 ⟨rfl, h5⟩
    have FN := Lib.hid (Fr.then_below (Fr.drew (Fr.refl No w3)) h5)
    have FO := Lib.hid (FN.out.mono (S' := SS w g v) (fun _ h => h.elim))
    clear h5 hHeld
    refine hK.out _ _ (HK.out _ FO.out) (fun hHeld => ?_)
    clear hK K
    (try simp only [Act.put, List.setIfInBounds_toArray, List.set_cons_zero, List.set_cons_succ, List.getElem_toArray, List.getElem_cons_succ, List.getElem_cons_zero])
    refine wpAnyH_take (i := 15) (v := ?_) rfl (by kernel_rfl) (by kernel_rfl) (by kernel_rfl) (fun _ _ _ h => h) (Or.inl ⟨by rfl, ?_⟩) (by assumption) ?_
    rotate_left
    · (intro w_ hSw; (try dsimp only at hSw); go_simp; (first | done | with_reducible rfl))
    (try simp only [Act.put, List.setIfInBounds_toArray, List.set_cons_zero, List.set_cons_succ, List.getElem_toArray, List.getElem_cons_succ, List.getElem_cons_zero])
    refine wpAnyH_take (i := 16) (v := ?_) rfl (by kernel_rfl) (by kernel_rfl) (by kernel_rfl) (fun _ _ _ h => h) (Or.inl ⟨by rfl, ?_⟩) (by assumption) ?_
    rotate_left
    · (intro w_ hSw; (try dsimp only at hSw); go_simp; (first | done | with_reducible rfl))
    (try simp only [Act.put, List.setIfInBounds_toArray, List.set_cons_zero, List.set_cons_succ, List.getElem_toArray, List.getElem_cons_succ, List.getElem_cons_zero])
    refine wpAnyH_take (i := 17) (v := ?_) rfl (by kernel_rfl) (by kernel_rfl) (by kernel_rfl) (fun _ _ _ h => h) (Or.inl ⟨by rfl, ?_⟩) (by assumption) ?_
    rotate_left
    · (intro w_ hSw; (try dsimp only at hSw); go_simp; (first | done | with_reducible rfl))
    (try simp only [Act.put, List.setIfInBounds_toArray, List.set_cons_zero, List.set_cons_succ, List.getElem_toArray, List.getElem_cons_succ, List.getElem_cons_zero])
    refine wpAnyH_done (by kernel_rfl) ?_ _
    go_wp2_with fail
    go_region_held3 (fun W => W.cell? ⟨w.heap.size, 0, none⟩ = some (.slice A n0 c) ∧ W.cell? ⟨w.heap.size, 1, none⟩ = some (.int .i64 e) ∧ W.cell? ⟨w.heap.size + 1, 0, none⟩ = some (.int .i64 1) ∧ W.cell? ⟨w.heap.size + 1, 1, none⟩ = some (.int .i64 (Int.negSucc k))) (exact HK.out _ (by repeat (first | exact FA.out | exact FU.out | exact FO.out | exact Fr.refl _ _ | apply Fr.drewN | apply Fr.drew | refine Fr.setCell ?_ (.inl (.inl rfl)) _))) ((go_at_call 11; refine (HCT.out _ (RG.out _ (by repeat (first | exact FUF.out | exact FN.out | apply Fr.drewN | apply Fr.drew)))).mono ?_; rintro x6 w6 ⟨rfl, h6, hf6⟩; have S6 := Lib.hid h6; have FX : Hid (Fr (Foot g v) w3 w6) := Lib.hid (Fr.trans (S := Foot g v) (Fr.mono (show Fr No w3 _ from (by repeat (first | exact FUF.out | exact FN.out | apply Fr.drewN | apply Fr.drew))) (fun _ h => h.elim)) hf6 (fun i hi => .inl hi)); have FU := Lib.hid (FX.out.mono (S' := SS w g v) (fun _ h => .inr h)); have z6 := HRB.out w6 FX.out; have r0 : w6.cell? ⟨w.heap.size + 1 + 1, 0, none⟩ = some (.slice none 0 0) := cell_of z6 0; have r1 : w6.cell? ⟨w.heap.size + 1 + 1, 1, none⟩ = some (.int .i64 0) := cell_of z6 1; have q0 := free_of z6 0; have q1 := free_of z6 1; have Z6 := Lib.hid z6; clear z6; clear h6 hf6))
    all_goals
      go_wp2_with fail
      have FE : Fr (fun j => j = w.heap.size + 1 + 1) w6 _ := ((Fr.refl (fun j => j = w.heap.size + 1 + 1) w6).setCell (p := ⟨w.heap.size + 1 + 1, 0, none⟩) (.inl rfl) (.slice A n0 c)).setCell (p := ⟨w.heap.size + 1 + 1, 1, none⟩) (.inl rfl) (.int .i64 e)
      refine bodyPost_ret (res_ct rfl _ _ (w.heap.size + 1 + 1) 26 #[.slice A n0 c, .int .i64 e] _ rfl (by repeat (first | exact set2_of Z6.out _ _ | apply drewN_of | apply drew_of)) Try.underlying26 rfl (by kernel_rfl)) rfl ?_
      exact close HFT.out FW.out FX.out S6.out (HROW.out w6 FX.out) (HS.out.inv) (by omega) (own_ne_blk (HROW.out w6 FX.out) Z6.out (by decide)) (by repeat (first | exact FE | apply Fr.drewN | apply Fr.drew))

set_option maxRecDepth 100000 in
set_option maxHeartbeats 12800000 in
theorem att_S2 (B g : Nat) (v bv : Value) (l : List Mb) (e t : Int) (w : World) (hs : Both w B g v bv l e) (he : e < 1000000) (ht0 : 0 ≤ t) (ht : (l.length : Int) ≤ t) :
    Calls Try.prog 26 #[.pointer (some ⟨g, 0, none⟩), .agg #[bv, .int .i64 e], .agg #[.int .i64 1, .int .i64 t]] w (StepPost B g v l e w) := by
  obtain ⟨A, c, rfl, _⟩ := hs.row.slice
  obtain ⟨n0, hn0⟩ : ∃ n0, n0 = l.length := ⟨_, rfl⟩
  obtain ⟨y, hy⟩ : ∃ y, y = ofI l t := ⟨_, rfl⟩
  have hyl := ofI_live hs.inv t
  rw [← hy] at hyl
  rw [atL_length, ← hn0]
  have HS := Lib.hid hs
  have HN := Lib.hid hn0
  have HY := Lib.hid hy
  have HE := Lib.hid he
  have hl8 : n0 ≤ 8 := by rw [hn0]; exact hs.reg.len
  have HFT := Lib.hid (show ∀ k, Foot g v k → B ≤ k ∧ k < w.heap.size from fun k hk => hs.reg.foot_lt k hk)
  have HOB : Hid (∀ X : World, Fr No w X → Calls Try.prog 33 #[.agg #[.slice A n0 c, .int .i64 e], .int .i64 t] X (Same X (.int .i64 y))) := Lib.hid (fun X hX => by
    have h := of_book A c l e t X (by have h := (hs.row.fr hX (fun _ _ h => h)).rd; rw [atL_length] at h; exact h)
    rw [← hn0, ← hy] at h
    exact h)
  clear hs hn0 hy he
  go_enter Try.func26, Try.ntmps26
  go_wp2_with fail
  have N0 := heap3_old w (.cells #[.slice A n0 c, .int .i64 e] 26) (.cells #[.int .i64 1, .int .i64 t] 35) (.cells #[.slice none 0 0, .int .i64 0] 26)
  have N1 := heap3_mid w (.cells #[.slice A n0 c, .int .i64 e] 26) (.cells #[.int .i64 1, .int .i64 t] 35) (.cells #[.slice none 0 0, .int .i64 0] 26)
  have N2 := heap3_new w (.cells #[.slice A n0 c, .int .i64 e] 26) (.cells #[.int .i64 1, .int .i64 t] 35) (.cells #[.slice none 0 0, .int .i64 0] 26)
  have FW := Lib.hid ((((Fr.refl No w).alloc (.cells #[.slice A n0 c, .int .i64 e] 26)).alloc (.cells #[.int .i64 1, .int .i64 t] 35)).alloc (.cells #[.slice none 0 0, .int .i64 0] 26))
  have hz : (((w.alloc (.cells #[.slice A n0 c, .int .i64 e] 26)).alloc (.cells #[.int .i64 1, .int .i64 t] 35)).alloc (.cells #[.slice none 0 0, .int .i64 0] 26)).heap.size = w.heap.size + 1 + 1 + 1 := by simp
  generalize ((w.alloc (.cells #[.slice A n0 c, .int .i64 e] 26)).alloc (.cells #[.int .i64 1, .int .i64 t] 35)).alloc (.cells #[.slice none 0 0, .int .i64 0] 26) = w3 at N0 N1 N2 FW hz ⊢
  have HK : Hid (∀ W : World, Fr (SS w g v) w3 W → BK w A n0 c e 1 t W) := Lib.hid (fun W hW => by
    have h0 : ¬ SS w g v w.heap.size := by rintro (h | h); · omega
                                           · have := (HFT.out _ h).2; omega
    have h1 : ¬ SS w g v (w.heap.size + 1) := by rintro (h | h); · omega
                                                 · have := (HFT.out _ h).2; omega
    exact ⟨cell_of (hW.blk N0 h0) 0, cell_of (hW.blk N0 h0) 1, cell_of (hW.blk N1 h1) 0, cell_of (hW.blk N1 h1) 1⟩)
  have HRB : Hid (∀ W : World, Fr (Foot g v) w3 W → W.heap[w.heap.size + 1 + 1]? = some (.cells #[.slice none 0 0, .int .i64 0] 26 (0, 0))) := Lib.hid (fun W hW => hW.blk N2 (fun h => by have := (HFT.out _ h).2; omega))
  clear N0 N1 N2
  obtain ⟨b0, b1, b2, b3⟩ := HK.out w3 (Fr.refl _ _)
  have g3 : decide (0 ≤ y) = liveB l t := hyl
  have HLV := Lib.hid hyl
  clear hyl
  · have hlv := liveB_past l t ht
    have hab : attachB l t = false := by unfold attachB; rw [decide_eq_false (show ¬ t < (l.length : Int) by omega)]; simp
    have gA : decide (0 ≤ t) = true := by simp; omega
    have gB : decide (t < (n0 : Int)) = false := by rw [HN.out]; simp; omega
    have gL : decide (0 ≤ y) = false := by rw [g3]; exact hlv
    clear g3 ht ht0
    have RG := Lib.hid (fun (W : World) (hW : Fr No w3 W) => HS.out.reg.no (FW.out.trans hW (fun i h => h.elim)))
    have HROW := Lib.hid (fun (W : World) (hW : Fr (Foot g v) w3 W) => show Own W B (.slice A n0 c) (atL l) by
      have h := (HS.out.row.fr FW.out (fun _ _ h => h)).fr hW (fun k hk h => HS.out.sep k hk h)
      rw [atL_length, ← HN.out] at h
      exact h)
    have HCT : Hid (∀ W : World, Reg W B g v l e → Calls Try.prog 11 #[.pointer (some ⟨g, 0, none⟩), .int .i64 t] W (PutPost B g v l e (.bool false) W)) := Lib.hid (fun W hW => by
      have h := attach_any B g v l e t W hW
      rw [show attachL l e t = l by unfold attachL; rw [hab]; rfl, hab] at h
      exact h)
    clear hlv hab
    refine wp_region_held_drew (S := (fun W => W.cell? ⟨w.heap.size, 0, none⟩ = some (.slice A n0 c) ∧ W.cell? ⟨w.heap.size, 1, none⟩ = some (.int .i64 e) ∧ W.cell? ⟨w.heap.size + 1, 0, none⟩ = some (.int .i64 1) ∧ W.cell? ⟨w.heap.size + 1, 1, none⟩ = some (.int .i64 t))) (by kernel_rfl) (HK.out _ (Fr.drew (Fr.refl _ _))) (fun hHeld => ?_)
    refine wpAnyH_take (i := 0) (v := ?_) rfl (by kernel_rfl) (by kernel_rfl) (by kernel_rfl) (fun _ _ _ h => h) (Or.inl ⟨by rfl, ?_⟩) (by assumption) ?_
    rotate_left
    · (intro w_ hSw; (try dsimp only at hSw); go_simp; (first | done | with_reducible rfl))
    (try simp only [Act.put, List.setIfInBounds_toArray, List.set_cons_zero, List.set_cons_succ, List.getElem_toArray, List.getElem_cons_succ, List.getElem_cons_zero])
    refine wpAnyH_take (i := 1) (v := ?_) rfl (by kernel_rfl) (by kernel_rfl) (by kernel_rfl) (fun _ _ _ h => h) (Or.inl ⟨by rfl, ?_⟩) (by assumption) ?_
    rotate_left
    · (intro w_ hSw; (try dsimp only at hSw); go_simp; (first | done | with_reducible rfl))
    (try simp only [Act.put, List.setIfInBounds_toArray, List.set_cons_zero, List.set_cons_succ, List.getElem_toArray, List.getElem_cons_succ, List.getElem_cons_zero])
    refine wpAnyH_take (i := 2) (v := ?_) rfl (by kernel_rfl) (by kernel_rfl) (by kernel_rfl) (fun _ _ _ h => h) (Or.inl ⟨by rfl, ?_⟩) (by assumption) ?_
    rotate_left
    · (intro w_ hSw; (try dsimp only at hSw); go_simp; (first | done | with_reducible rfl))
    (try simp only [Act.put, List.setIfInBounds_toArray, List.set_cons_zero, List.set_cons_succ, List.getElem_toArray, List.getElem_cons_succ, List.getElem_cons_zero])
    refine wpAnyH_take (i := 3) (v := ?_) rfl (by kernel_rfl) (by kernel_rfl) (by kernel_rfl) (fun _ _ _ h => h) (Or.inl ⟨by rfl, ?_⟩) (by assumption) ?_
    rotate_left
    · (intro w_ hSw; (try dsimp only at hSw); go_simp; (first | done | with_reducible rfl))
    (try simp only [Act.put, List.setIfInBounds_toArray, List.set_cons_zero, List.set_cons_succ, List.getElem_toArray, List.getElem_cons_succ, List.getElem_cons_zero])
    refine wpAnyH_take (i := 4) (v := ?_) rfl (by kernel_rfl) (by kernel_rfl) (by kernel_rfl) (fun _ _ _ h => h) (Or.inl ⟨by rfl, ?_⟩) (by assumption) ?_
    rotate_left
    · (intro w_ hSw; (try dsimp only at hSw); go_simp; (first | done | with_reducible rfl))
    (try simp only [Act.put, List.setIfInBounds_toArray, List.set_cons_zero, List.set_cons_succ, List.getElem_toArray, List.getElem_cons_succ, List.getElem_cons_zero])
    refine wpAnyH_take (i := 5) (v := ?_) rfl (by kernel_rfl) (by kernel_rfl) (by kernel_rfl) (fun _ _ _ h => h) (Or.inl ⟨by rfl, ?_⟩) (by assumption) ?_
    rotate_left
    · (intro w_ hSw; (try dsimp only at hSw); go_simp; (first | done | with_reducible rfl))
    (try simp only [Act.put, List.setIfInBounds_toArray, List.set_cons_zero, List.set_cons_succ, List.getElem_toArray, List.getElem_cons_succ, List.getElem_cons_zero])
    refine wpAnyH_take (i := 6) (v := ?_) rfl (by kernel_rfl) (by kernel_rfl) (by kernel_rfl) (fun _ _ _ h => h) (Or.inl ⟨by rfl, ?_⟩) (by assumption) ?_
    rotate_left
    · (intro w_ hSw; (try dsimp only at hSw); go_simp; (first | done | with_reducible rfl))
    (try simp only [Act.put, List.setIfInBounds_toArray, List.set_cons_zero, List.set_cons_succ, List.getElem_toArray, List.getElem_cons_succ, List.getElem_cons_zero])
    refine wpAnyH_take (i := 7) (v := ?_) rfl (by kernel_rfl) (by kernel_rfl) (by kernel_rfl) (fun _ _ _ h => h) (Or.inl ⟨by rfl, ?_⟩) (by assumption) ?_
    rotate_left
    · (intro w_ hSw; (try dsimp only at hSw); go_simp; (first | done | with_reducible rfl))
    (try simp only [Act.put, List.setIfInBounds_toArray, List.set_cons_zero, List.set_cons_succ, List.getElem_toArray, List.getElem_cons_succ, List.getElem_cons_zero])
    refine wpAnyH_take (i := 8) (v := ?_) rfl (by kernel_rfl) (by kernel_rfl) (by kernel_rfl) (fun _ _ _ h => h) (Or.inl ⟨by rfl, ?_⟩) (by assumption) ?_
    rotate_left
    · (intro w_ hSw; (try dsimp only at hSw); go_simp; (first | done | with_reducible rfl))
    (try simp only [Act.put, List.setIfInBounds_toArray, List.set_cons_zero, List.set_cons_succ, List.getElem_toArray, List.getElem_cons_succ, List.getElem_cons_zero])
    refine wpAnyH_take (i := 9) (v := ?_) rfl (by kernel_rfl) (by kernel_rfl) (by kernel_rfl) (fun _ _ _ h => h) (Or.inl ⟨by rfl, ?_⟩) (by assumption) ?_
    rotate_left
    · (intro w_ hSw; (try dsimp only at hSw); go_simp; (first | done | with_reducible rfl))
    (try simp only [Act.put, List.setIfInBounds_toArray, List.set_cons_zero, List.set_cons_succ, List.getElem_toArray, List.getElem_cons_succ, List.getElem_cons_zero])
    refine wpAnyH_take (i := 10) (v := ?_) rfl (by kernel_rfl) (by kernel_rfl) (by kernel_rfl) (fun _ _ _ h => h) (Or.inl ⟨by rfl, ?_⟩) (by assumption) ?_
    rotate_left
    · (intro w_ hSw; (try dsimp only at hSw); go_simp; (first | done | with_reducible rfl))
    (try simp only [Act.put, List.setIfInBounds_toArray, List.set_cons_zero, List.set_cons_succ, List.getElem_toArray, List.getElem_cons_succ, List.getElem_cons_zero])
    refine wpAnyH_take (i := 11) (v := ?_) rfl (by kernel_rfl) (by kernel_rfl) (by kernel_rfl) (fun _ _ _ h => h) (Or.inl ⟨by rfl, ?_⟩) (by assumption) ?_
    rotate_left
    · (intro w_ hSw; (try dsimp only at hSw); go_simp; (first | done | with_reducible rfl))
    (try simp only [Act.put, List.setIfInBounds_toArray, List.set_cons_zero, List.set_cons_succ, List.getElem_toArray, List.getElem_cons_succ, List.getElem_cons_zero])
    refine wpAnyH_take (i := 12) (v := ?_) rfl (by kernel_rfl) (by kernel_rfl) (by kernel_rfl) (fun _ _ _ h => h) (Or.inl ⟨by rfl, ?_⟩) (by assumption) ?_
    rotate_left
    · (intro w_ hSw; (try dsimp only at hSw); go_simp; (first | done | with_reducible rfl))
    (try simp only [Act.put, List.setIfInBounds_toArray, List.set_cons_zero, List.set_cons_succ, List.getElem_toArray, List.getElem_cons_succ, List.getElem_cons_zero])
    refine wpAnyH_take (i := 13) (v := ?_) rfl (by kernel_rfl) (by kernel_rfl) (by kernel_rfl) (fun _ _ _ h => h) (Or.inl ⟨by rfl, ?_⟩) (by assumption) ?_
    rotate_left
    · (intro w_ hSw; (try dsimp only at hSw); go_simp; (first | done | with_reducible rfl))
    (try simp only [Act.put, List.setIfInBounds_toArray, List.set_cons_zero, List.set_cons_succ, List.getElem_toArray, List.getElem_cons_succ, List.getElem_cons_zero])
    refine wpAnyH_ready (rs := [14]) (by kernel_rfl) (by simp) ?_
    refine AllReadyH.cons rfl (fun K hK => ?_) AllReadyH.nil
    go_simp
    go_at_call 33
    refine (HOB.out _ (by repeat (first | exact FW.out | apply Fr.drewN | apply Fr.drew))).mono ?_
    rintro x1 w5 ⟨rfl, h5⟩
    have FN := Lib.hid (Fr.then_below (Fr.drew (Fr.refl No w3)) h5)
    have FO := Lib.hid (FN.out.mono (S' := SS w g v) (fun _ h => h.elim))
    clear h5 hHeld
    refine hK.out _ _ (HK.out _ FO.out) (fun hHeld => ?_)
    clear hK K
    (try simp only [Act.put, List.setIfInBounds_toArray, List.set_cons_zero, List.set_cons_succ, List.getElem_toArray, List.getElem_cons_succ, List.getElem_cons_zero])
    refine wpAnyH_take (i := 15) (v := ?_) rfl (by kernel_rfl) (by kernel_rfl) (by kernel_rfl) (fun _ _ _ h => h) (Or.inl ⟨by rfl, ?_⟩) (by assumption) ?_
    rotate_left
    · (intro w_ hSw; (try dsimp only at hSw); go_simp; (first | done | with_reducible rfl))
    (try simp only [Act.put, List.setIfInBounds_toArray, List.set_cons_zero, List.set_cons_succ, List.getElem_toArray, List.getElem_cons_succ, List.getElem_cons_zero])
    refine wpAnyH_take (i := 16) (v := ?_) rfl (by kernel_rfl) (by kernel_rfl) (by kernel_rfl) (fun _ _ _ h => h) (Or.inl ⟨by rfl, ?_⟩) (by assumption) ?_
    rotate_left
    · (intro w_ hSw; (try dsimp only at hSw); go_simp; (first | done | with_reducible rfl))
    (try simp only [Act.put, List.setIfInBounds_toArray, List.set_cons_zero, List.set_cons_succ, List.getElem_toArray, List.getElem_cons_succ, List.getElem_cons_zero])
    refine wpAnyH_take (i := 17) (v := ?_) rfl (by kernel_rfl) (by kernel_rfl) (by kernel_rfl) (fun _ _ _ h => h) (Or.inl ⟨by rfl, ?_⟩) (by assumption) ?_
    rotate_left
    · (intro w_ hSw; (try dsimp only at hSw); go_simp; (first | done | with_reducible rfl))
    (try simp only [Act.put, List.setIfInBounds_toArray, List.set_cons_zero, List.set_cons_succ, List.getElem_toArray, List.getElem_cons_succ, List.getElem_cons_zero])
    refine wpAnyH_done (by kernel_rfl) ?_ _
    go_wp2_with fail
    go_region_held3 (fun W => W.cell? ⟨w.heap.size, 0, none⟩ = some (.slice A n0 c) ∧ W.cell? ⟨w.heap.size, 1, none⟩ = some (.int .i64 e) ∧ W.cell? ⟨w.heap.size + 1, 0, none⟩ = some (.int .i64 1) ∧ W.cell? ⟨w.heap.size + 1, 1, none⟩ = some (.int .i64 t)) (exact HK.out _ (by repeat (first | exact FA.out | exact FU.out | exact FO.out | exact Fr.refl _ _ | apply Fr.drewN | apply Fr.drew | refine Fr.setCell ?_ (.inl (.inl rfl)) _))) ((go_at_call 11; refine (HCT.out _ (RG.out _ (by repeat (first | exact FUF.out | exact FN.out | apply Fr.drewN | apply Fr.drew)))).mono ?_; rintro x6 w6 ⟨rfl, h6, hf6⟩; have S6 := Lib.hid h6; have FX : Hid (Fr (Foot g v) w3 w6) := Lib.hid (Fr.trans (S := Foot g v) (Fr.mono (show Fr No w3 _ from (by repeat (first | exact FUF.out | exact FN.out | apply Fr.drewN | apply Fr.drew))) (fun _ h => h.elim)) hf6 (fun i hi => .inl hi)); have FU := Lib.hid (FX.out.mono (S' := SS w g v) (fun _ h => .inr h)); have z6 := HRB.out w6 FX.out; have r0 : w6.cell? ⟨w.heap.size + 1 + 1, 0, none⟩ = some (.slice none 0 0) := cell_of z6 0; have r1 : w6.cell? ⟨w.heap.size + 1 + 1, 1, none⟩ = some (.int .i64 0) := cell_of z6 1; have q0 := free_of z6 0; have q1 := free_of z6 1; have Z6 := Lib.hid z6; clear z6; clear h6 hf6))
    all_goals
      go_wp2_with fail
      have FE : Fr (fun j => j = w.heap.size + 1 + 1) w6 _ := ((Fr.refl (fun j => j = w.heap.size + 1 + 1) w6).setCell (p := ⟨w.heap.size + 1 + 1, 0, none⟩) (.inl rfl) (.slice A n0 c)).setCell (p := ⟨w.heap.size + 1 + 1, 1, none⟩) (.inl rfl) (.int .i64 e)
      refine bodyPost_ret (res_ct rfl _ _ (w.heap.size + 1 + 1) 26 #[.slice A n0 c, .int .i64 e] _ rfl (by repeat (first | exact set2_of Z6.out _ _ | apply drewN_of | apply drew_of)) Try.underlying26 rfl (by kernel_rfl)) rfl ?_
      exact close HFT.out FW.out FX.out S6.out (HROW.out w6 FX.out) (HS.out.inv) (by omega) (own_ne_blk (HROW.out w6 FX.out) Z6.out (by decide)) (by repeat (first | exact FE | apply Fr.drewN | apply Fr.drew))

set_option maxRecDepth 100000 in
set_option maxHeartbeats 12800000 in
theorem att_S4 (B g : Nat) (v bv : Value) (l : List Mb) (e t : Int) (w : World) (hs : Both w B g v bv l e) (he : e < 1000000) (k : Nat) (ht : t = (k : Int)) (hk : k < l.length) (hl : liveB l (k : Int) = true) :
    Calls Try.prog 26 #[.pointer (some ⟨g, 0, none⟩), .agg #[bv, .int .i64 e], .agg #[.int .i64 1, .int .i64 t]] w (StepPost B g v l e w) := by
  obtain ⟨A, c, rfl, _⟩ := hs.row.slice
  have HT_ := Lib.hid ht
  have HH_ := Lib.hid hl
  clear ht hl
  obtain ⟨n0, hn0⟩ : ∃ n0, n0 = l.length := ⟨_, rfl⟩
  obtain ⟨y, hy⟩ : ∃ y, y = ofI l t := ⟨_, rfl⟩
  have hyl := ofI_live hs.inv t
  rw [← hy] at hyl
  rw [atL_length, ← hn0]
  have HS := Lib.hid hs
  have HN := Lib.hid hn0
  have HY := Lib.hid hy
  have HE := Lib.hid he
  have hl8 : n0 ≤ 8 := by rw [hn0]; exact hs.reg.len
  have HFT := Lib.hid (show ∀ k, Foot g v k → B ≤ k ∧ k < w.heap.size from fun k hk => hs.reg.foot_lt k hk)
  have HOB : Hid (∀ X : World, Fr No w X → Calls Try.prog 33 #[.agg #[.slice A n0 c, .int .i64 e], .int .i64 t] X (Same X (.int .i64 y))) := Lib.hid (fun X hX => by
    have h := of_book A c l e t X (by have h := (hs.row.fr hX (fun _ _ h => h)).rd; rw [atL_length] at h; exact h)
    rw [← hn0, ← hy] at h
    exact h)
  clear hs hn0 hy he
  go_enter Try.func26, Try.ntmps26
  go_wp2_with fail
  have N0 := heap3_old w (.cells #[.slice A n0 c, .int .i64 e] 26) (.cells #[.int .i64 1, .int .i64 t] 35) (.cells #[.slice none 0 0, .int .i64 0] 26)
  have N1 := heap3_mid w (.cells #[.slice A n0 c, .int .i64 e] 26) (.cells #[.int .i64 1, .int .i64 t] 35) (.cells #[.slice none 0 0, .int .i64 0] 26)
  have N2 := heap3_new w (.cells #[.slice A n0 c, .int .i64 e] 26) (.cells #[.int .i64 1, .int .i64 t] 35) (.cells #[.slice none 0 0, .int .i64 0] 26)
  have FW := Lib.hid ((((Fr.refl No w).alloc (.cells #[.slice A n0 c, .int .i64 e] 26)).alloc (.cells #[.int .i64 1, .int .i64 t] 35)).alloc (.cells #[.slice none 0 0, .int .i64 0] 26))
  have hz : (((w.alloc (.cells #[.slice A n0 c, .int .i64 e] 26)).alloc (.cells #[.int .i64 1, .int .i64 t] 35)).alloc (.cells #[.slice none 0 0, .int .i64 0] 26)).heap.size = w.heap.size + 1 + 1 + 1 := by simp
  generalize ((w.alloc (.cells #[.slice A n0 c, .int .i64 e] 26)).alloc (.cells #[.int .i64 1, .int .i64 t] 35)).alloc (.cells #[.slice none 0 0, .int .i64 0] 26) = w3 at N0 N1 N2 FW hz ⊢
  have HK : Hid (∀ W : World, Fr (SS w g v) w3 W → BK w A n0 c e 1 t W) := Lib.hid (fun W hW => by
    have h0 : ¬ SS w g v w.heap.size := by rintro (h | h); · omega
                                           · have := (HFT.out _ h).2; omega
    have h1 : ¬ SS w g v (w.heap.size + 1) := by rintro (h | h); · omega
                                                 · have := (HFT.out _ h).2; omega
    exact ⟨cell_of (hW.blk N0 h0) 0, cell_of (hW.blk N0 h0) 1, cell_of (hW.blk N1 h1) 0, cell_of (hW.blk N1 h1) 1⟩)
  have HRB : Hid (∀ W : World, Fr (Foot g v) w3 W → W.heap[w.heap.size + 1 + 1]? = some (.cells #[.slice none 0 0, .int .i64 0] 26 (0, 0))) := Lib.hid (fun W hW => hW.blk N2 (fun h => by have := (HFT.out _ h).2; omega))
  clear N0 N1 N2
  obtain ⟨b0, b1, b2, b3⟩ := HK.out w3 (Fr.refl _ _)
  have g3 : decide (0 ≤ y) = liveB l t := hyl
  have HLV := Lib.hid hyl
  clear hyl
  · have ht := HT_.out
    subst ht
    have hl := HH_.out
    have hlv := hl
    have hab : attachB l (k : Int) = false := by unfold attachB; rw [hl, decide_eq_true (show (0 : Int) ≤ (k : Int) by omega), decide_eq_true (show (k : Int) < (l.length : Int) by omega)]; rfl
    have HKL := Lib.hid hk
    have i1 : (0 : Int) ≤ (k : Int) := Int.natCast_nonneg _
    have i2 : (k : Int) < (n0 : Int) := by rw [HN.out]; omega
    have gB : decide ((k : Int) < (n0 : Int)) = true := decide_eq_true i2
    have gL : decide (0 ≤ y) = true := by rw [g3]; exact hlv
    clear g3 hk hl HH_
    have RG := Lib.hid (fun (W : World) (hW : Fr No w3 W) => HS.out.reg.no (FW.out.trans hW (fun i h => h.elim)))
    have HROW := Lib.hid (fun (W : World) (hW : Fr (Foot g v) w3 W) => show Own W B (.slice A n0 c) (atL l) by
      have h := (HS.out.row.fr FW.out (fun _ _ h => h)).fr hW (fun k hk h => HS.out.sep k hk h)
      rw [atL_length, ← HN.out] at h
      exact h)
    have HCT : Hid (∀ W : World, Reg W B g v l e → Calls Try.prog 11 #[.pointer (some ⟨g, 0, none⟩), .int .i64 (k : Int)] W (PutPost B g v l e (.bool false) W)) := Lib.hid (fun W hW => by
      have h := attach_any B g v l e (k : Int) W hW
      rw [show attachL l e (k : Int) = l by unfold attachL; rw [hab]; rfl, hab] at h
      exact h)
    clear hlv hab
    refine wp_region_held_drew (S := (fun W => W.cell? ⟨w.heap.size, 0, none⟩ = some (.slice A n0 c) ∧ W.cell? ⟨w.heap.size, 1, none⟩ = some (.int .i64 e) ∧ W.cell? ⟨w.heap.size + 1, 0, none⟩ = some (.int .i64 1) ∧ W.cell? ⟨w.heap.size + 1, 1, none⟩ = some (.int .i64 (k : Int)))) (by kernel_rfl) (HK.out _ (Fr.drew (Fr.refl _ _))) (fun hHeld => ?_)
    refine wpAnyH_take (i := 0) (v := ?_) rfl (by kernel_rfl) (by kernel_rfl) (by kernel_rfl) (fun _ _ _ h => h) (Or.inl ⟨by rfl, ?_⟩) (by assumption) ?_
    rotate_left
    · (intro w_ hSw; (try dsimp only at hSw); go_simp; (first | done | with_reducible rfl))
    (try simp only [Act.put, List.setIfInBounds_toArray, List.set_cons_zero, List.set_cons_succ, List.getElem_toArray, List.getElem_cons_succ, List.getElem_cons_zero])
    refine wpAnyH_take (i := 1) (v := ?_) rfl (by kernel_rfl) (by kernel_rfl) (by kernel_rfl) (fun _ _ _ h => h) (Or.inl ⟨by rfl, ?_⟩) (by assumption) ?_
    rotate_left
    · (intro w_ hSw; (try dsimp only at hSw); go_simp; (first | done | with_reducible rfl))
    (try simp only [Act.put, List.setIfInBounds_toArray, List.set_cons_zero, List.set_cons_succ, List.getElem_toArray, List.getElem_cons_succ, List.getElem_cons_zero])
    refine wpAnyH_take (i := 2) (v := ?_) rfl (by kernel_rfl) (by kernel_rfl) (by kernel_rfl) (fun _ _ _ h => h) (Or.inl ⟨by rfl, ?_⟩) (by assumption) ?_
    rotate_left
    · (intro w_ hSw; (try dsimp only at hSw); go_simp; (first | done | with_reducible rfl))
    (try simp only [Act.put, List.setIfInBounds_toArray, List.set_cons_zero, List.set_cons_succ, List.getElem_toArray, List.getElem_cons_succ, List.getElem_cons_zero])
    refine wpAnyH_take (i := 3) (v := ?_) rfl (by kernel_rfl) (by kernel_rfl) (by kernel_rfl) (fun _ _ _ h => h) (Or.inl ⟨by rfl, ?_⟩) (by assumption) ?_
    rotate_left
    · (intro w_ hSw; (try dsimp only at hSw); go_simp; (first | done | with_reducible rfl))
    (try simp only [Act.put, List.setIfInBounds_toArray, List.set_cons_zero, List.set_cons_succ, List.getElem_toArray, List.getElem_cons_succ, List.getElem_cons_zero])
    refine wpAnyH_take (i := 4) (v := ?_) rfl (by kernel_rfl) (by kernel_rfl) (by kernel_rfl) (fun _ _ _ h => h) (Or.inl ⟨by rfl, ?_⟩) (by assumption) ?_
    rotate_left
    · (intro w_ hSw; (try dsimp only at hSw); go_simp; (first | done | with_reducible rfl))
    (try simp only [Act.put, List.setIfInBounds_toArray, List.set_cons_zero, List.set_cons_succ, List.getElem_toArray, List.getElem_cons_succ, List.getElem_cons_zero])
    refine wpAnyH_take (i := 5) (v := ?_) rfl (by kernel_rfl) (by kernel_rfl) (by kernel_rfl) (fun _ _ _ h => h) (Or.inl ⟨by rfl, ?_⟩) (by assumption) ?_
    rotate_left
    · (intro w_ hSw; (try dsimp only at hSw); go_simp; (first | done | with_reducible rfl))
    (try simp only [Act.put, List.setIfInBounds_toArray, List.set_cons_zero, List.set_cons_succ, List.getElem_toArray, List.getElem_cons_succ, List.getElem_cons_zero])
    refine wpAnyH_take (i := 6) (v := ?_) rfl (by kernel_rfl) (by kernel_rfl) (by kernel_rfl) (fun _ _ _ h => h) (Or.inl ⟨by rfl, ?_⟩) (by assumption) ?_
    rotate_left
    · (intro w_ hSw; (try dsimp only at hSw); go_simp; (first | done | with_reducible rfl))
    (try simp only [Act.put, List.setIfInBounds_toArray, List.set_cons_zero, List.set_cons_succ, List.getElem_toArray, List.getElem_cons_succ, List.getElem_cons_zero])
    refine wpAnyH_take (i := 7) (v := ?_) rfl (by kernel_rfl) (by kernel_rfl) (by kernel_rfl) (fun _ _ _ h => h) (Or.inl ⟨by rfl, ?_⟩) (by assumption) ?_
    rotate_left
    · (intro w_ hSw; (try dsimp only at hSw); go_simp; (first | done | with_reducible rfl))
    (try simp only [Act.put, List.setIfInBounds_toArray, List.set_cons_zero, List.set_cons_succ, List.getElem_toArray, List.getElem_cons_succ, List.getElem_cons_zero])
    refine wpAnyH_take (i := 8) (v := ?_) rfl (by kernel_rfl) (by kernel_rfl) (by kernel_rfl) (fun _ _ _ h => h) (Or.inl ⟨by rfl, ?_⟩) (by assumption) ?_
    rotate_left
    · (intro w_ hSw; (try dsimp only at hSw); go_simp; (first | done | with_reducible rfl))
    (try simp only [Act.put, List.setIfInBounds_toArray, List.set_cons_zero, List.set_cons_succ, List.getElem_toArray, List.getElem_cons_succ, List.getElem_cons_zero])
    refine wpAnyH_take (i := 9) (v := ?_) rfl (by kernel_rfl) (by kernel_rfl) (by kernel_rfl) (fun _ _ _ h => h) (Or.inl ⟨by rfl, ?_⟩) (by assumption) ?_
    rotate_left
    · (intro w_ hSw; (try dsimp only at hSw); go_simp; (first | done | with_reducible rfl))
    (try simp only [Act.put, List.setIfInBounds_toArray, List.set_cons_zero, List.set_cons_succ, List.getElem_toArray, List.getElem_cons_succ, List.getElem_cons_zero])
    refine wpAnyH_take (i := 10) (v := ?_) rfl (by kernel_rfl) (by kernel_rfl) (by kernel_rfl) (fun _ _ _ h => h) (Or.inl ⟨by rfl, ?_⟩) (by assumption) ?_
    rotate_left
    · (intro w_ hSw; (try dsimp only at hSw); go_simp; (first | done | with_reducible rfl))
    (try simp only [Act.put, List.setIfInBounds_toArray, List.set_cons_zero, List.set_cons_succ, List.getElem_toArray, List.getElem_cons_succ, List.getElem_cons_zero])
    refine wpAnyH_take (i := 11) (v := ?_) rfl (by kernel_rfl) (by kernel_rfl) (by kernel_rfl) (fun _ _ _ h => h) (Or.inl ⟨by rfl, ?_⟩) (by assumption) ?_
    rotate_left
    · (intro w_ hSw; (try dsimp only at hSw); go_simp; (first | done | with_reducible rfl))
    (try simp only [Act.put, List.setIfInBounds_toArray, List.set_cons_zero, List.set_cons_succ, List.getElem_toArray, List.getElem_cons_succ, List.getElem_cons_zero])
    refine wpAnyH_take (i := 12) (v := ?_) rfl (by kernel_rfl) (by kernel_rfl) (by kernel_rfl) (fun _ _ _ h => h) (Or.inl ⟨by rfl, ?_⟩) (by assumption) ?_
    rotate_left
    · (intro w_ hSw; (try dsimp only at hSw); go_simp; (first | done | with_reducible rfl))
    (try simp only [Act.put, List.setIfInBounds_toArray, List.set_cons_zero, List.set_cons_succ, List.getElem_toArray, List.getElem_cons_succ, List.getElem_cons_zero])
    refine wpAnyH_take (i := 13) (v := ?_) rfl (by kernel_rfl) (by kernel_rfl) (by kernel_rfl) (fun _ _ _ h => h) (Or.inl ⟨by rfl, ?_⟩) (by assumption) ?_
    rotate_left
    · (intro w_ hSw; (try dsimp only at hSw); go_simp; (first | done | with_reducible rfl))
    (try simp only [Act.put, List.setIfInBounds_toArray, List.set_cons_zero, List.set_cons_succ, List.getElem_toArray, List.getElem_cons_succ, List.getElem_cons_zero])
    refine wpAnyH_ready (rs := [14]) (by kernel_rfl) (by simp) ?_
    refine AllReadyH.cons rfl (fun K hK => ?_) AllReadyH.nil
    go_simp
    go_at_call 33
    refine (HOB.out _ (by repeat (first | exact FW.out | apply Fr.drewN | apply Fr.drew))).mono ?_
    rintro x1 w5 ⟨rfl, h5⟩
    have FN := Lib.hid (Fr.then_below (Fr.drew (Fr.refl No w3)) h5)
    have FO := Lib.hid (FN.out.mono (S' := SS w g v) (fun _ h => h.elim))
    clear h5 hHeld
    refine hK.out _ _ (HK.out _ FO.out) (fun hHeld => ?_)
    clear hK K
    (try simp only [Act.put, List.setIfInBounds_toArray, List.set_cons_zero, List.set_cons_succ, List.getElem_toArray, List.getElem_cons_succ, List.getElem_cons_zero])
    refine wpAnyH_take (i := 15) (v := ?_) rfl (by kernel_rfl) (by kernel_rfl) (by kernel_rfl) (fun _ _ _ h => h) (Or.inl ⟨by rfl, ?_⟩) (by assumption) ?_
    rotate_left
    · (intro w_ hSw; (try dsimp only at hSw); go_simp; (first | done | with_reducible rfl))
    (try simp only [Act.put, List.setIfInBounds_toArray, List.set_cons_zero, List.set_cons_succ, List.getElem_toArray, List.getElem_cons_succ, List.getElem_cons_zero])
    refine wpAnyH_take (i := 16) (v := ?_) rfl (by kernel_rfl) (by kernel_rfl) (by kernel_rfl) (fun _ _ _ h => h) (Or.inl ⟨by rfl, ?_⟩) (by assumption) ?_
    rotate_left
    · (intro w_ hSw; (try dsimp only at hSw); go_simp; (first | done | with_reducible rfl))
    (try simp only [Act.put, List.setIfInBounds_toArray, List.set_cons_zero, List.set_cons_succ, List.getElem_toArray, List.getElem_cons_succ, List.getElem_cons_zero])
    refine wpAnyH_take (i := 17) (v := ?_) rfl (by kernel_rfl) (by kernel_rfl) (by kernel_rfl) (fun _ _ _ h => h) (Or.inl ⟨by rfl, ?_⟩) (by assumption) ?_
    rotate_left
    · (intro w_ hSw; (try dsimp only at hSw); go_simp; (first | done | with_reducible rfl))
    (try simp only [Act.put, List.setIfInBounds_toArray, List.set_cons_zero, List.set_cons_succ, List.getElem_toArray, List.getElem_cons_succ, List.getElem_cons_zero])
    refine wpAnyH_done (by kernel_rfl) ?_ _
    go_wp2_with fail
    go_region_held3 (fun W => W.cell? ⟨w.heap.size, 0, none⟩ = some (.slice A n0 c) ∧ W.cell? ⟨w.heap.size, 1, none⟩ = some (.int .i64 e) ∧ W.cell? ⟨w.heap.size + 1, 0, none⟩ = some (.int .i64 1) ∧ W.cell? ⟨w.heap.size + 1, 1, none⟩ = some (.int .i64 (k : Int))) (exact HK.out _ (by repeat (first | exact FA.out | exact FU.out | exact FO.out | exact Fr.refl _ _ | apply Fr.drewN | apply Fr.drew | refine Fr.setCell ?_ (.inl (.inl rfl)) _))) ((go_at_call 11; refine (HCT.out _ (RG.out _ (by repeat (first | exact FUF.out | exact FN.out | apply Fr.drewN | apply Fr.drew)))).mono ?_; rintro x6 w6 ⟨rfl, h6, hf6⟩; have S6 := Lib.hid h6; have FX : Hid (Fr (Foot g v) w3 w6) := Lib.hid (Fr.trans (S := Foot g v) (Fr.mono (show Fr No w3 _ from (by repeat (first | exact FUF.out | exact FN.out | apply Fr.drewN | apply Fr.drew))) (fun _ h => h.elim)) hf6 (fun i hi => .inl hi)); have FU := Lib.hid (FX.out.mono (S' := SS w g v) (fun _ h => .inr h)); have z6 := HRB.out w6 FX.out; have r0 : w6.cell? ⟨w.heap.size + 1 + 1, 0, none⟩ = some (.slice none 0 0) := cell_of z6 0; have r1 : w6.cell? ⟨w.heap.size + 1 + 1, 1, none⟩ = some (.int .i64 0) := cell_of z6 1; have q0 := free_of z6 0; have q1 := free_of z6 1; have Z6 := Lib.hid z6; clear z6; clear h6 hf6))
    all_goals
      go_wp2_with fail
      have FE : Fr (fun j => j = w.heap.size + 1 + 1) w6 _ := ((Fr.refl (fun j => j = w.heap.size + 1 + 1) w6).setCell (p := ⟨w.heap.size + 1 + 1, 0, none⟩) (.inl rfl) (.slice A n0 c)).setCell (p := ⟨w.heap.size + 1 + 1, 1, none⟩) (.inl rfl) (.int .i64 e)
      refine bodyPost_ret (res_ct rfl _ _ (w.heap.size + 1 + 1) 26 #[.slice A n0 c, .int .i64 e] _ rfl (by repeat (first | exact set2_of Z6.out _ _ | apply drewN_of | apply drew_of)) Try.underlying26 rfl (by kernel_rfl)) rfl ?_
      exact close HFT.out FW.out FX.out S6.out (HROW.out w6 FX.out) (HS.out.inv) (by omega) (own_ne_blk (HROW.out w6 FX.out) Z6.out (by decide)) (by repeat (first | exact FE | apply Fr.drewN | apply Fr.drew))

set_option maxRecDepth 100000 in
set_option maxHeartbeats 12800000 in
theorem att_yes (B g : Nat) (v bv : Value) (l : List Mb) (e t : Int) (w : World) (hs : Both w B g v bv l e) (he : e < 1000000) (k : Nat) (ht : t = (k : Int)) (hk : k < l.length) (hl : liveB l (k : Int) = false) :
    Calls Try.prog 26 #[.pointer (some ⟨g, 0, none⟩), .agg #[bv, .int .i64 e], .agg #[.int .i64 1, .int .i64 t]] w (StepPost B g v l e w) := by
  obtain ⟨A, c, rfl, _⟩ := hs.row.slice
  have HT_ := Lib.hid ht
  have HH_ := Lib.hid hl
  clear ht hl
  obtain ⟨n0, hn0⟩ : ∃ n0, n0 = l.length := ⟨_, rfl⟩
  obtain ⟨y, hy⟩ : ∃ y, y = ofI l t := ⟨_, rfl⟩
  have hyl := ofI_live hs.inv t
  rw [← hy] at hyl
  rw [atL_length, ← hn0]
  have HS := Lib.hid hs
  have HN := Lib.hid hn0
  have HY := Lib.hid hy
  have HE := Lib.hid he
  have hl8 : n0 ≤ 8 := by rw [hn0]; exact hs.reg.len
  have HFT := Lib.hid (show ∀ k, Foot g v k → B ≤ k ∧ k < w.heap.size from fun k hk => hs.reg.foot_lt k hk)
  have HOB : Hid (∀ X : World, Fr No w X → Calls Try.prog 33 #[.agg #[.slice A n0 c, .int .i64 e], .int .i64 t] X (Same X (.int .i64 y))) := Lib.hid (fun X hX => by
    have h := of_book A c l e t X (by have h := (hs.row.fr hX (fun _ _ h => h)).rd; rw [atL_length] at h; exact h)
    rw [← hn0, ← hy] at h
    exact h)
  clear hs hn0 hy he
  go_enter Try.func26, Try.ntmps26
  go_wp2_with fail
  have N0 := heap3_old w (.cells #[.slice A n0 c, .int .i64 e] 26) (.cells #[.int .i64 1, .int .i64 t] 35) (.cells #[.slice none 0 0, .int .i64 0] 26)
  have N1 := heap3_mid w (.cells #[.slice A n0 c, .int .i64 e] 26) (.cells #[.int .i64 1, .int .i64 t] 35) (.cells #[.slice none 0 0, .int .i64 0] 26)
  have N2 := heap3_new w (.cells #[.slice A n0 c, .int .i64 e] 26) (.cells #[.int .i64 1, .int .i64 t] 35) (.cells #[.slice none 0 0, .int .i64 0] 26)
  have FW := Lib.hid ((((Fr.refl No w).alloc (.cells #[.slice A n0 c, .int .i64 e] 26)).alloc (.cells #[.int .i64 1, .int .i64 t] 35)).alloc (.cells #[.slice none 0 0, .int .i64 0] 26))
  have hz : (((w.alloc (.cells #[.slice A n0 c, .int .i64 e] 26)).alloc (.cells #[.int .i64 1, .int .i64 t] 35)).alloc (.cells #[.slice none 0 0, .int .i64 0] 26)).heap.size = w.heap.size + 1 + 1 + 1 := by simp
  generalize ((w.alloc (.cells #[.slice A n0 c, .int .i64 e] 26)).alloc (.cells #[.int .i64 1, .int .i64 t] 35)).alloc (.cells #[.slice none 0 0, .int .i64 0] 26) = w3 at N0 N1 N2 FW hz ⊢
  have HK : Hid (∀ W : World, Fr (SS w g v) w3 W → BK w A n0 c e 1 t W) := Lib.hid (fun W hW => by
    have h0 : ¬ SS w g v w.heap.size := by rintro (h | h); · omega
                                           · have := (HFT.out _ h).2; omega
    have h1 : ¬ SS w g v (w.heap.size + 1) := by rintro (h | h); · omega
                                                 · have := (HFT.out _ h).2; omega
    exact ⟨cell_of (hW.blk N0 h0) 0, cell_of (hW.blk N0 h0) 1, cell_of (hW.blk N1 h1) 0, cell_of (hW.blk N1 h1) 1⟩)
  have HRB : Hid (∀ W : World, Fr (Foot g v) w3 W → W.heap[w.heap.size + 1 + 1]? = some (.cells #[.slice none 0 0, .int .i64 0] 26 (0, 0))) := Lib.hid (fun W hW => hW.blk N2 (fun h => by have := (HFT.out _ h).2; omega))
  clear N0 N1 N2
  obtain ⟨b0, b1, b2, b3⟩ := HK.out w3 (Fr.refl _ _)
  have g3 : decide (0 ≤ y) = liveB l t := hyl
  have HLV := Lib.hid hyl
  clear hyl
  · have ht := HT_.out
    subst ht
    have hl := HH_.out
    have hlv := hl
    have hab : attachB l (k : Int) = true := by unfold attachB; rw [hl, decide_eq_true (show (0 : Int) ≤ (k : Int) by omega), decide_eq_true (show (k : Int) < (l.length : Int) by omega)]; rfl
    have HKL := Lib.hid hk
    have i1 : (0 : Int) ≤ (k : Int) := Int.natCast_nonneg _
    have i2 : (k : Int) < (n0 : Int) := by rw [HN.out]; omega
    have gB : decide ((k : Int) < (n0 : Int)) = true := decide_eq_true i2
    have gL : decide (0 ≤ y) = false := by rw [g3]; exact hlv
    clear g3 hk hl HH_
    have RG := Lib.hid (fun (W : World) (hW : Fr No w3 W) => HS.out.reg.no (FW.out.trans hW (fun i h => h.elim)))
    have HROW := Lib.hid (fun (W : World) (hW : Fr (Foot g v) w3 W) => show Own W B (.slice A n0 c) (atL l) by
      have h := (HS.out.row.fr FW.out (fun _ _ h => h)).fr hW (fun k hk h => HS.out.sep k hk h)
      rw [atL_length, ← HN.out] at h
      exact h)
    obtain ⟨xs5, hx5⟩ : ∃ xs5, xs5 = (atL l).set k (e) := ⟨_, rfl⟩
    have HX5 := Lib.hid hx5
    have HST : Hid (∀ W : World, Fr No w3 W → Calls Try.prog 34 #[.agg #[.slice A n0 c, .int .i64 e], .int .i64 (k : Int), .int .i64 (e)] W (SetPost xs5 e W)) := Lib.hid (fun W hW => by
      rw [hx5]
      exact set_book A n0 c (atL l) e k (e) W (by rw [atL_length]; exact HN.out) (by
        have h := ((HS.out.row.fr FW.out (fun _ _ h => h)).fr hW (fun _ _ h => h)).rd
        rw [atL_length, ← HN.out] at h
        exact h) (by rw [atL_length]; exact HKL.out) (by rw [atL_length]; exact HS.out.reg.len))
    clear hx5
    obtain ⟨l5, hl5⟩ : ∃ l5, l5 = l.set k (true, e) := ⟨_, rfl⟩
    have HL5 := Lib.hid hl5
    have HCT : Hid (∀ W : World, Reg W B g v l e → Calls Try.prog 11 #[.pointer (some ⟨g, 0, none⟩), .int .i64 (k : Int)] W (PutPost B g v l5 e (.bool true) W)) := Lib.hid (fun W hW => by
      have h := attach_any B g v l e (k : Int) W hW
      rw [show attachL l e (k : Int) = l.set (k : Int).toNat (true, e) by unfold attachL; rw [hab]; rfl, hab, Int.toNat_natCast, ← hl5] at h
      exact h)
    clear hl5
    clear hlv hab
    refine wp_region_held_drew (S := (fun W => W.cell? ⟨w.heap.size, 0, none⟩ = some (.slice A n0 c) ∧ W.cell? ⟨w.heap.size, 1, none⟩ = some (.int .i64 e) ∧ W.cell? ⟨w.heap.size + 1, 0, none⟩ = some (.int .i64 1) ∧ W.cell? ⟨w.heap.size + 1, 1, none⟩ = some (.int .i64 (k : Int)))) (by kernel_rfl) (HK.out _ (Fr.drew (Fr.refl _ _))) (fun hHeld => ?_)
    refine wpAnyH_take (i := 0) (v := ?_) rfl (by kernel_rfl) (by kernel_rfl) (by kernel_rfl) (fun _ _ _ h => h) (Or.inl ⟨by rfl, ?_⟩) (by assumption) ?_
    rotate_left
    · (intro w_ hSw; (try dsimp only at hSw); go_simp; (first | done | with_reducible rfl))
    (try simp only [Act.put, List.setIfInBounds_toArray, List.set_cons_zero, List.set_cons_succ, List.getElem_toArray, List.getElem_cons_succ, List.getElem_cons_zero])
    refine wpAnyH_take (i := 1) (v := ?_) rfl (by kernel_rfl) (by kernel_rfl) (by kernel_rfl) (fun _ _ _ h => h) (Or.inl ⟨by rfl, ?_⟩) (by assumption) ?_
    rotate_left
    · (intro w_ hSw; (try dsimp only at hSw); go_simp; (first | done | with_reducible rfl))
    (try simp only [Act.put, List.setIfInBounds_toArray, List.set_cons_zero, List.set_cons_succ, List.getElem_toArray, List.getElem_cons_succ, List.getElem_cons_zero])
    refine wpAnyH_take (i := 2) (v := ?_) rfl (by kernel_rfl) (by kernel_rfl) (by kernel_rfl) (fun _ _ _ h => h) (Or.inl ⟨by rfl, ?_⟩) (by assumption) ?_
    rotate_left
    · (intro w_ hSw; (try dsimp only at hSw); go_simp; (first | done | with_reducible rfl))
    (try simp only [Act.put, List.setIfInBounds_toArray, List.set_cons_zero, List.set_cons_succ, List.getElem_toArray, List.getElem_cons_succ, List.getElem_cons_zero])
    refine wpAnyH_take (i := 3) (v := ?_) rfl (by kernel_rfl) (by kernel_rfl) (by kernel_rfl) (fun _ _ _ h => h) (Or.inl ⟨by rfl, ?_⟩) (by assumption) ?_
    rotate_left
    · (intro w_ hSw; (try dsimp only at hSw); go_simp; (first | done | with_reducible rfl))
    (try simp only [Act.put, List.setIfInBounds_toArray, List.set_cons_zero, List.set_cons_succ, List.getElem_toArray, List.getElem_cons_succ, List.getElem_cons_zero])
    refine wpAnyH_take (i := 4) (v := ?_) rfl (by kernel_rfl) (by kernel_rfl) (by kernel_rfl) (fun _ _ _ h => h) (Or.inl ⟨by rfl, ?_⟩) (by assumption) ?_
    rotate_left
    · (intro w_ hSw; (try dsimp only at hSw); go_simp; (first | done | with_reducible rfl))
    (try simp only [Act.put, List.setIfInBounds_toArray, List.set_cons_zero, List.set_cons_succ, List.getElem_toArray, List.getElem_cons_succ, List.getElem_cons_zero])
    refine wpAnyH_take (i := 5) (v := ?_) rfl (by kernel_rfl) (by kernel_rfl) (by kernel_rfl) (fun _ _ _ h => h) (Or.inl ⟨by rfl, ?_⟩) (by assumption) ?_
    rotate_left
    · (intro w_ hSw; (try dsimp only at hSw); go_simp; (first | done | with_reducible rfl))
    (try simp only [Act.put, List.setIfInBounds_toArray, List.set_cons_zero, List.set_cons_succ, List.getElem_toArray, List.getElem_cons_succ, List.getElem_cons_zero])
    refine wpAnyH_take (i := 6) (v := ?_) rfl (by kernel_rfl) (by kernel_rfl) (by kernel_rfl) (fun _ _ _ h => h) (Or.inl ⟨by rfl, ?_⟩) (by assumption) ?_
    rotate_left
    · (intro w_ hSw; (try dsimp only at hSw); go_simp; (first | done | with_reducible rfl))
    (try simp only [Act.put, List.setIfInBounds_toArray, List.set_cons_zero, List.set_cons_succ, List.getElem_toArray, List.getElem_cons_succ, List.getElem_cons_zero])
    refine wpAnyH_take (i := 7) (v := ?_) rfl (by kernel_rfl) (by kernel_rfl) (by kernel_rfl) (fun _ _ _ h => h) (Or.inl ⟨by rfl, ?_⟩) (by assumption) ?_
    rotate_left
    · (intro w_ hSw; (try dsimp only at hSw); go_simp; (first | done | with_reducible rfl))
    (try simp only [Act.put, List.setIfInBounds_toArray, List.set_cons_zero, List.set_cons_succ, List.getElem_toArray, List.getElem_cons_succ, List.getElem_cons_zero])
    refine wpAnyH_take (i := 8) (v := ?_) rfl (by kernel_rfl) (by kernel_rfl) (by kernel_rfl) (fun _ _ _ h => h) (Or.inl ⟨by rfl, ?_⟩) (by assumption) ?_
    rotate_left
    · (intro w_ hSw; (try dsimp only at hSw); go_simp; (first | done | with_reducible rfl))
    (try simp only [Act.put, List.setIfInBounds_toArray, List.set_cons_zero, List.set_cons_succ, List.getElem_toArray, List.getElem_cons_succ, List.getElem_cons_zero])
    refine wpAnyH_take (i := 9) (v := ?_) rfl (by kernel_rfl) (by kernel_rfl) (by kernel_rfl) (fun _ _ _ h => h) (Or.inl ⟨by rfl, ?_⟩) (by assumption) ?_
    rotate_left
    · (intro w_ hSw; (try dsimp only at hSw); go_simp; (first | done | with_reducible rfl))
    (try simp only [Act.put, List.setIfInBounds_toArray, List.set_cons_zero, List.set_cons_succ, List.getElem_toArray, List.getElem_cons_succ, List.getElem_cons_zero])
    refine wpAnyH_take (i := 10) (v := ?_) rfl (by kernel_rfl) (by kernel_rfl) (by kernel_rfl) (fun _ _ _ h => h) (Or.inl ⟨by rfl, ?_⟩) (by assumption) ?_
    rotate_left
    · (intro w_ hSw; (try dsimp only at hSw); go_simp; (first | done | with_reducible rfl))
    (try simp only [Act.put, List.setIfInBounds_toArray, List.set_cons_zero, List.set_cons_succ, List.getElem_toArray, List.getElem_cons_succ, List.getElem_cons_zero])
    refine wpAnyH_take (i := 11) (v := ?_) rfl (by kernel_rfl) (by kernel_rfl) (by kernel_rfl) (fun _ _ _ h => h) (Or.inl ⟨by rfl, ?_⟩) (by assumption) ?_
    rotate_left
    · (intro w_ hSw; (try dsimp only at hSw); go_simp; (first | done | with_reducible rfl))
    (try simp only [Act.put, List.setIfInBounds_toArray, List.set_cons_zero, List.set_cons_succ, List.getElem_toArray, List.getElem_cons_succ, List.getElem_cons_zero])
    refine wpAnyH_take (i := 12) (v := ?_) rfl (by kernel_rfl) (by kernel_rfl) (by kernel_rfl) (fun _ _ _ h => h) (Or.inl ⟨by rfl, ?_⟩) (by assumption) ?_
    rotate_left
    · (intro w_ hSw; (try dsimp only at hSw); go_simp; (first | done | with_reducible rfl))
    (try simp only [Act.put, List.setIfInBounds_toArray, List.set_cons_zero, List.set_cons_succ, List.getElem_toArray, List.getElem_cons_succ, List.getElem_cons_zero])
    refine wpAnyH_take (i := 13) (v := ?_) rfl (by kernel_rfl) (by kernel_rfl) (by kernel_rfl) (fun _ _ _ h => h) (Or.inl ⟨by rfl, ?_⟩) (by assumption) ?_
    rotate_left
    · (intro w_ hSw; (try dsimp only at hSw); go_simp; (first | done | with_reducible rfl))
    (try simp only [Act.put, List.setIfInBounds_toArray, List.set_cons_zero, List.set_cons_succ, List.getElem_toArray, List.getElem_cons_succ, List.getElem_cons_zero])
    refine wpAnyH_ready (rs := [14]) (by kernel_rfl) (by simp) ?_
    refine AllReadyH.cons rfl (fun K hK => ?_) AllReadyH.nil
    go_simp
    go_at_call 33
    refine (HOB.out _ (by repeat (first | exact FW.out | apply Fr.drewN | apply Fr.drew))).mono ?_
    rintro x1 w5 ⟨rfl, h5⟩
    have FN := Lib.hid (Fr.then_below (Fr.drew (Fr.refl No w3)) h5)
    have FO := Lib.hid (FN.out.mono (S' := SS w g v) (fun _ h => h.elim))
    clear h5 hHeld
    refine hK.out _ _ (HK.out _ FO.out) (fun hHeld => ?_)
    clear hK K
    (try simp only [Act.put, List.setIfInBounds_toArray, List.set_cons_zero, List.set_cons_succ, List.getElem_toArray, List.getElem_cons_succ, List.getElem_cons_zero])
    refine wpAnyH_take (i := 15) (v := ?_) rfl (by kernel_rfl) (by kernel_rfl) (by kernel_rfl) (fun _ _ _ h => h) (Or.inl ⟨by rfl, ?_⟩) (by assumption) ?_
    rotate_left
    · (intro w_ hSw; (try dsimp only at hSw); go_simp; (first | done | with_reducible rfl))
    (try simp only [Act.put, List.setIfInBounds_toArray, List.set_cons_zero, List.set_cons_succ, List.getElem_toArray, List.getElem_cons_succ, List.getElem_cons_zero])
    refine wpAnyH_take (i := 16) (v := ?_) rfl (by kernel_rfl) (by kernel_rfl) (by kernel_rfl) (fun _ _ _ h => h) (Or.inl ⟨by rfl, ?_⟩) (by assumption) ?_
    rotate_left
    · (intro w_ hSw; (try dsimp only at hSw); go_simp; (first | done | with_reducible rfl))
    (try simp only [Act.put, List.setIfInBounds_toArray, List.set_cons_zero, List.set_cons_succ, List.getElem_toArray, List.getElem_cons_succ, List.getElem_cons_zero])
    refine wpAnyH_take (i := 17) (v := ?_) rfl (by kernel_rfl) (by kernel_rfl) (by kernel_rfl) (fun _ _ _ h => h) (Or.inl ⟨by rfl, ?_⟩) (by assumption) ?_
    rotate_left
    · (intro w_ hSw; (try dsimp only at hSw); go_simp; (first | done | with_reducible rfl))
    (try simp only [Act.put, List.setIfInBounds_toArray, List.set_cons_zero, List.set_cons_succ, List.getElem_toArray, List.getElem_cons_succ, List.getElem_cons_zero])
    refine wpAnyH_done (by kernel_rfl) ?_ _
    go_wp2_with fail
    go_region_held3 (fun W => W.cell? ⟨w.heap.size, 0, none⟩ = some (.slice A n0 c) ∧ W.cell? ⟨w.heap.size, 1, none⟩ = some (.int .i64 e) ∧ W.cell? ⟨w.heap.size + 1, 0, none⟩ = some (.int .i64 1) ∧ W.cell? ⟨w.heap.size + 1, 1, none⟩ = some (.int .i64 (k : Int))) (exact HK.out _ (by repeat (first | exact FU.out | exact FU8.out | exact FO.out | exact Fr.refl _ _ | apply Fr.drewN | apply Fr.drew | refine Fr.setCell ?_ (.inl (.inl rfl)) _))) (first | (go_at_call 34; refine (HST.out _ (by repeat (first | exact FUF.out | exact FN.out | apply Fr.drewN | apply Fr.drew))).mono ?_; rintro x5 w8 ⟨v8, rfl, o8, b8⟩; obtain ⟨A8, c8, rfl, _⟩ := o8.slice; have O8 := Lib.hid (o8.lower ((show Fr No w3 _ from (by repeat (first | exact FUF.out | exact FN.out | apply Fr.drewN | apply Fr.drew))).size)); have FUF : Hid (Fr No w3 w8) := Lib.hid (Fr.then_below (show Fr No w3 _ from (by repeat (first | exact FUF.out | exact FN.out | apply Fr.drewN | apply Fr.drew))) b8); have FU8 : Hid (Fr (SS w g v) w3 w8) := Lib.hid (FUF.out.mono (fun _ h => h.elim)); clear o8 b8) | (go_at_call 11; refine (HCT.out _ (RG.out _ (by repeat (first | exact FUF.out | exact FN.out | apply Fr.drewN | apply Fr.drew)))).mono ?_; rintro x6 w6 ⟨rfl, h6, hf6⟩; have S6 := Lib.hid h6; have FX : Hid (Fr (Foot g v) w3 w6) := Lib.hid (Fr.trans (S := Foot g v) (Fr.mono (show Fr No w3 _ from (by repeat (first | exact FUF.out | exact FN.out | apply Fr.drewN | apply Fr.drew))) (fun _ h => h.elim)) hf6 (fun i hi => .inl hi)); have FU := Lib.hid (FX.out.mono (S' := SS w g v) (fun _ h => .inr h)); have z6 := HRB.out w6 FX.out; have r0 : w6.cell? ⟨w.heap.size + 1 + 1, 0, none⟩ = some (.slice none 0 0) := cell_of z6 0; have r1 : w6.cell? ⟨w.heap.size + 1 + 1, 1, none⟩ = some (.int .i64 0) := cell_of z6 1; have q0 := free_of z6 0; have q1 := free_of z6 1; have Z6 := Lib.hid z6; clear z6; have F86 : Hid (Fr (Foot g v) w8 w6) := Lib.hid (Fr.trans (S := Foot g v) (Fr.mono (show Fr No w8 _ from (by repeat (first | exact Fr.refl No w8 | apply Fr.drewN | apply Fr.drew))) (fun _ h => h.elim)) hf6 (fun i hi => .inl hi)); clear h6 hf6))
    all_goals
      go_wp2_with fail
      have FE : Fr (fun j => j = w.heap.size + 1 + 1) w6 _ := ((Fr.refl (fun j => j = w.heap.size + 1 + 1) w6).setCell (p := ⟨w.heap.size + 1 + 1, 0, none⟩) (.inl rfl) (.slice A8 xs5.length c8)).setCell (p := ⟨w.heap.size + 1 + 1, 1, none⟩) (.inl rfl) (.int .i64 e)
      refine bodyPost_ret (res_ct rfl _ _ (w.heap.size + 1 + 1) 26 #[.slice A8 xs5.length c8, .int .i64 e] _ rfl (by repeat (first | exact set2_of Z6.out _ _ | apply drewN_of | apply drew_of)) Try.underlying26 rfl (by kernel_rfl)) rfl ?_
      have O9 : Own w6 B (.slice A8 xs5.length c8) (atL l5) := by
        have h : Own w6 B (.slice A8 xs5.length c8) xs5 := (O8.out.fr F86.out (fun j hj h => by have h1 := (O8.out.lt j hj).1; have h2 := (HFT.out j h).2; have h3 := FW.out.size; omega)).lower (by have h2 := (HFT.out g (.inl rfl)); have h3 := FW.out.size; omega)
        have e5 : atL l5 = xs5 := by rw [HL5.out, HX5.out, atL_set]; rfl
        rw [e5]
        exact h
      exact close HFT.out FW.out FX.out S6.out (O9) (by rw [HL5.out]; exact inv_set HS.out.inv k true e (fun _ => ⟨HS.out.inv.e0, Int.le_refl _⟩)) (by omega) (own_ne_blk (O9) Z6.out (by decide)) (by repeat (first | exact FE | apply Fr.drewN | apply Fr.drew))

set_option maxRecDepth 100000 in
set_option maxHeartbeats 12800000 in
theorem det_S1 (B g : Nat) (v bv : Value) (l : List Mb) (e t : Int) (w : World) (hs : Both w B g v bv l e) (he : e < 1000000) (ht : t < 0) :
    Calls Try.prog 26 #[.pointer (some ⟨g, 0, none⟩), .agg #[bv, .int .i64 e], .agg #[.int .i64 2, .int .i64 t]] w (StepPost B g v l e w) := by
  obtain ⟨A, c, rfl, _⟩ := hs.row.slice
  obtain ⟨n0, hn0⟩ : ∃ n0, n0 = l.length := ⟨_, rfl⟩
  obtain ⟨y, hy⟩ : ∃ y, y = ofI l t := ⟨_, rfl⟩
  have hyl := ofI_live hs.inv t
  rw [← hy] at hyl
  rw [atL_length, ← hn0]
  have HS := Lib.hid hs
  have HN := Lib.hid hn0
  have HY := Lib.hid hy
  have HE := Lib.hid he
  have hl8 : n0 ≤ 8 := by rw [hn0]; exact hs.reg.len
  have HFT := Lib.hid (show ∀ k, Foot g v k → B ≤ k ∧ k < w.heap.size from fun k hk => hs.reg.foot_lt k hk)
  have HOB : Hid (∀ X : World, Fr No w X → Calls Try.prog 33 #[.agg #[.slice A n0 c, .int .i64 e], .int .i64 t] X (Same X (.int .i64 y))) := Lib.hid (fun X hX => by
    have h := of_book A c l e t X (by have h := (hs.row.fr hX (fun _ _ h => h)).rd; rw [atL_length] at h; exact h)
    rw [← hn0, ← hy] at h
    exact h)
  clear hs hn0 hy he
  go_enter Try.func26, Try.ntmps26
  go_wp2_with fail
  have N0 := heap3_old w (.cells #[.slice A n0 c, .int .i64 e] 26) (.cells #[.int .i64 2, .int .i64 t] 35) (.cells #[.slice none 0 0, .int .i64 0] 26)
  have N1 := heap3_mid w (.cells #[.slice A n0 c, .int .i64 e] 26) (.cells #[.int .i64 2, .int .i64 t] 35) (.cells #[.slice none 0 0, .int .i64 0] 26)
  have N2 := heap3_new w (.cells #[.slice A n0 c, .int .i64 e] 26) (.cells #[.int .i64 2, .int .i64 t] 35) (.cells #[.slice none 0 0, .int .i64 0] 26)
  have FW := Lib.hid ((((Fr.refl No w).alloc (.cells #[.slice A n0 c, .int .i64 e] 26)).alloc (.cells #[.int .i64 2, .int .i64 t] 35)).alloc (.cells #[.slice none 0 0, .int .i64 0] 26))
  have hz : (((w.alloc (.cells #[.slice A n0 c, .int .i64 e] 26)).alloc (.cells #[.int .i64 2, .int .i64 t] 35)).alloc (.cells #[.slice none 0 0, .int .i64 0] 26)).heap.size = w.heap.size + 1 + 1 + 1 := by simp
  generalize ((w.alloc (.cells #[.slice A n0 c, .int .i64 e] 26)).alloc (.cells #[.int .i64 2, .int .i64 t] 35)).alloc (.cells #[.slice none 0 0, .int .i64 0] 26) = w3 at N0 N1 N2 FW hz ⊢
  have HK : Hid (∀ W : World, Fr (SS w g v) w3 W → BK w A n0 c e 2 t W) := Lib.hid (fun W hW => by
    have h0 : ¬ SS w g v w.heap.size := by rintro (h | h); · omega
                                           · have := (HFT.out _ h).2; omega
    have h1 : ¬ SS w g v (w.heap.size + 1) := by rintro (h | h); · omega
                                                 · have := (HFT.out _ h).2; omega
    exact ⟨cell_of (hW.blk N0 h0) 0, cell_of (hW.blk N0 h0) 1, cell_of (hW.blk N1 h1) 0, cell_of (hW.blk N1 h1) 1⟩)
  have HRB : Hid (∀ W : World, Fr (Foot g v) w3 W → W.heap[w.heap.size + 1 + 1]? = some (.cells #[.slice none 0 0, .int .i64 0] 26 (0, 0))) := Lib.hid (fun W hW => hW.blk N2 (fun h => by have := (HFT.out _ h).2; omega))
  clear N0 N1 N2
  obtain ⟨b0, b1, b2, b3⟩ := HK.out w3 (Fr.refl _ _)
  have g3 : decide (0 ≤ y) = liveB l t := hyl
  have HLV := Lib.hid hyl
  clear hyl
  · obtain ⟨k, rfl⟩ : ∃ k, t = Int.negSucc k := Int.eq_negSucc_of_lt_zero ht
    have hlv := liveB_neg l (Int.negSucc k) ht
    have hab : attachB l (Int.negSucc k) = false := by unfold attachB; rw [decide_eq_false (by omega)]; rfl
    have gL : decide (0 ≤ y) = false := by rw [g3]; exact hlv
    clear g3 ht
    have RG := Lib.hid (fun (W : World) (hW : Fr No w3 W) => HS.out.reg.no (FW.out.trans hW (fun i h => h.elim)))
    have HROW := Lib.hid (fun (W : World) (hW : Fr (Foot g v) w3 W) => show Own W B (.slice A n0 c) (atL l) by
      have h := (HS.out.row.fr FW.out (fun _ _ h => h)).fr hW (fun k hk h => HS.out.sep k hk h)
      rw [atL_length, ← HN.out] at h
      exact h)
    have HCT : Hid (∀ W : World, Reg W B g v l e → Calls Try.prog 12 #[.pointer (some ⟨g, 0, none⟩), .int .i64 (Int.negSucc k)] W (PutPost B g v l e (.bool false) W)) := Lib.hid (fun W hW => by
      have h := detach_any B g v l e (Int.negSucc k) W hW
      rw [show detachL l (Int.negSucc k) = l by unfold detachL; rw [hlv]; rfl, hlv] at h
      exact h)
    clear hlv hab
    refine wp_region_held_drew (S := (fun W => W.cell? ⟨w.heap.size, 0, none⟩ = some (.slice A n0 c) ∧ W.cell? ⟨w.heap.size, 1, none⟩ = some (.int .i64 e) ∧ W.cell? ⟨w.heap.size + 1, 0, none⟩ = some (.int .i64 2) ∧ W.cell? ⟨w.heap.size + 1, 1, none⟩ = some (.int .i64 (Int.negSucc k)))) (by kernel_rfl) (HK.out _ (Fr.drew (Fr.refl _ _))) (fun hHeld => ?_)
    refine wpAnyH_take (i := 0) (v := ?_) rfl (by kernel_rfl) (by kernel_rfl) (by kernel_rfl) (fun _ _ _ h => h) (Or.inl ⟨by rfl, ?_⟩) (by assumption) ?_
    rotate_left
    · (intro w_ hSw; (try dsimp only at hSw); go_simp; (first | done | with_reducible rfl))
    (try simp only [Act.put, List.setIfInBounds_toArray, List.set_cons_zero, List.set_cons_succ, List.getElem_toArray, List.getElem_cons_succ, List.getElem_cons_zero])
    refine wpAnyH_take (i := 1) (v := ?_) rfl (by kernel_rfl) (by kernel_rfl) (by kernel_rfl) (fun _ _ _ h => h) (Or.inl ⟨by rfl, ?_⟩) (by assumption) ?_
    rotate_left
    · (intro w_ hSw; (try dsimp only at hSw); go_simp; (first | done | with_reducible rfl))
    (try simp only [Act.put, List.setIfInBounds_toArray, List.set_cons_zero, List.set_cons_succ, List.getElem_toArray, List.getElem_cons_succ, List.getElem_cons_zero])
    refine wpAnyH_take (i := 2) (v := ?_) rfl (by kernel_rfl) (by kernel_rfl) (by kernel_rfl) (fun _ _ _ h => h) (Or.inl ⟨by rfl, ?_⟩) (by assumption) ?_
    rotate_left
    · (intro w_ hSw; (try dsimp only at hSw); go_simp; (first | done | with_reducible rfl))
    (try simp only [Act.put, List.setIfInBounds_toArray, List.set_cons_zero, List.set_cons_succ, List.getElem_toArray, List.getElem_cons_succ, List.getElem_cons_zero])
    refine wpAnyH_take (i := 3) (v := ?_) rfl (by kernel_rfl) (by kernel_rfl) (by kernel_rfl) (fun _ _ _ h => h) (Or.inl ⟨by rfl, ?_⟩) (by assumption) ?_
    rotate_left
    · (intro w_ hSw; (try dsimp only at hSw); go_simp; (first | done | with_reducible rfl))
    (try simp only [Act.put, List.setIfInBounds_toArray, List.set_cons_zero, List.set_cons_succ, List.getElem_toArray, List.getElem_cons_succ, List.getElem_cons_zero])
    refine wpAnyH_take (i := 4) (v := undef) rfl (by kernel_rfl) (by kernel_rfl) (by kernel_rfl) (fun _ _ _ h => h) (Or.inr ⟨by rfl, rfl⟩) (by assumption) ?_
    (try simp only [Act.put, List.setIfInBounds_toArray, List.set_cons_zero, List.set_cons_succ, List.getElem_toArray, List.getElem_cons_succ, List.getElem_cons_zero])
    refine wpAnyH_take (i := 5) (v := undef) rfl (by kernel_rfl) (by kernel_rfl) (by kernel_rfl) (fun _ _ _ h => h) (Or.inr ⟨by rfl, rfl⟩) (by assumption) ?_
    (try simp only [Act.put, List.setIfInBounds_toArray, List.set_cons_zero, List.set_cons_succ, List.getElem_toArray, List.getElem_cons_succ, List.getElem_cons_zero])
    refine wpAnyH_take (i := 6) (v := undef) rfl (by kernel_rfl) (by kernel_rfl) (by kernel_rfl) (fun _ _ _ h => h) (Or.inr ⟨by rfl, rfl⟩) (by assumption) ?_
    (try simp only [Act.put, List.setIfInBounds_toArray, List.set_cons_zero, List.set_cons_succ, List.getElem_toArray, List.getElem_cons_succ, List.getElem_cons_zero])
    refine wpAnyH_take (i := 7) (v := undef) rfl (by kernel_rfl) (by kernel_rfl) (by kernel_rfl) (fun _ _ _ h => h) (Or.inr ⟨by rfl, rfl⟩) (by assumption) ?_
    (try simp only [Act.put, List.setIfInBounds_toArray, List.set_cons_zero, List.set_cons_succ, List.getElem_toArray, List.getElem_cons_succ, List.getElem_cons_zero])
    refine wpAnyH_take (i := 8) (v := undef) rfl (by kernel_rfl) (by kernel_rfl) (by kernel_rfl) (fun _ _ _ h => h) (Or.inr ⟨by rfl, rfl⟩) (by assumption) ?_
    (try simp only [Act.put, List.setIfInBounds_toArray, List.set_cons_zero, List.set_cons_succ, List.getElem_toArray, List.getElem_cons_succ, List.getElem_cons_zero])
    refine wpAnyH_take (i := 9) (v := undef) rfl (by kernel_rfl) (by kernel_rfl) (by kernel_rfl) (fun _ _ _ h => h) (Or.inr ⟨by rfl, rfl⟩) (by assumption) ?_
    (try simp only [Act.put, List.setIfInBounds_toArray, List.set_cons_zero, List.set_cons_succ, List.getElem_toArray, List.getElem_cons_succ, List.getElem_cons_zero])
    refine wpAnyH_take (i := 10) (v := ?_) rfl (by kernel_rfl) (by kernel_rfl) (by kernel_rfl) (fun _ _ _ h => h) (Or.inl ⟨by rfl, ?_⟩) (by assumption) ?_
    rotate_left
    · (intro w_ hSw; (try dsimp only at hSw); go_simp; (first | done | with_reducible rfl))
    (try simp only [Act.put, List.setIfInBounds_toArray, List.set_cons_zero, List.set_cons_succ, List.getElem_toArray, List.getElem_cons_succ, List.getElem_cons_zero])
    refine wpAnyH_take (i := 11) (v := ?_) rfl (by kernel_rfl) (by kernel_rfl) (by kernel_rfl) (fun _ _ _ h => h) (Or.inl ⟨by rfl, ?_⟩) (by assumption) ?_
    rotate_left
    · (intro w_ hSw; (try dsimp only at hSw); go_simp; (first | done | with_reducible rfl))
    (try simp only [Act.put, List.setIfInBounds_toArray, List.set_cons_zero, List.set_cons_succ, List.getElem_toArray, List.getElem_cons_succ, List.getElem_cons_zero])
    refine wpAnyH_take (i := 12) (v := ?_) rfl (by kernel_rfl) (by kernel_rfl) (by kernel_rfl) (fun _ _ _ h => h) (Or.inl ⟨by rfl, ?_⟩) (by assumption) ?_
    rotate_left
    · (intro w_ hSw; (try dsimp only at hSw); go_simp; (first | done | with_reducible rfl))
    (try simp only [Act.put, List.setIfInBounds_toArray, List.set_cons_zero, List.set_cons_succ, List.getElem_toArray, List.getElem_cons_succ, List.getElem_cons_zero])
    refine wpAnyH_take (i := 13) (v := ?_) rfl (by kernel_rfl) (by kernel_rfl) (by kernel_rfl) (fun _ _ _ h => h) (Or.inl ⟨by rfl, ?_⟩) (by assumption) ?_
    rotate_left
    · (intro w_ hSw; (try dsimp only at hSw); go_simp; (first | done | with_reducible rfl))
    (try simp only [Act.put, List.setIfInBounds_toArray, List.set_cons_zero, List.set_cons_succ, List.getElem_toArray, List.getElem_cons_succ, List.getElem_cons_zero])
    refine wpAnyH_ready (rs := [14]) (by kernel_rfl) (by simp) ?_
    refine AllReadyH.cons rfl (fun K hK => ?_) AllReadyH.nil
    go_simp
    go_at_call 33
    refine (HOB.out _ (by repeat (first | exact FW.out | apply Fr.drewN | apply Fr.drew))).mono ?_
    rintro x1 w5 ⟨rfl, h5⟩
    have FN := Lib.hid (Fr.then_below (Fr.drew (Fr.refl No w3)) h5)
    have FO := Lib.hid (FN.out.mono (S' := SS w g v) (fun _ h => h.elim))
    clear h5 hHeld
    refine hK.out _ _ (HK.out _ FO.out) (fun hHeld => ?_)
    clear hK K
    (try simp only [Act.put, List.setIfInBounds_toArray, List.set_cons_zero, List.set_cons_succ, List.getElem_toArray, List.getElem_cons_succ, List.getElem_cons_zero])
    refine wpAnyH_take (i := 15) (v := ?_) rfl (by kernel_rfl) (by kernel_rfl) (by kernel_rfl) (fun _ _ _ h => h) (Or.inl ⟨by rfl, ?_⟩) (by assumption) ?_
    rotate_left
    · (intro w_ hSw; (try dsimp only at hSw); go_simp; (first | done | with_reducible rfl))
    (try simp only [Act.put, List.setIfInBounds_toArray, List.set_cons_zero, List.set_cons_succ, List.getElem_toArray, List.getElem_cons_succ, List.getElem_cons_zero])
    refine wpAnyH_take (i := 16) (v := ?_) rfl (by kernel_rfl) (by kernel_rfl) (by kernel_rfl) (fun _ _ _ h => h) (Or.inl ⟨by rfl, ?_⟩) (by assumption) ?_
    rotate_left
    · (intro w_ hSw; (try dsimp only at hSw); go_simp; (first | done | with_reducible rfl))
    (try simp only [Act.put, List.setIfInBounds_toArray, List.set_cons_zero, List.set_cons_succ, List.getElem_toArray, List.getElem_cons_succ, List.getElem_cons_zero])
    refine wpAnyH_take (i := 17) (v := ?_) rfl (by kernel_rfl) (by kernel_rfl) (by kernel_rfl) (fun _ _ _ h => h) (Or.inl ⟨by rfl, ?_⟩) (by assumption) ?_
    rotate_left
    · (intro w_ hSw; (try dsimp only at hSw); go_simp; (first | done | with_reducible rfl))
    (try simp only [Act.put, List.setIfInBounds_toArray, List.set_cons_zero, List.set_cons_succ, List.getElem_toArray, List.getElem_cons_succ, List.getElem_cons_zero])
    refine wpAnyH_done (by kernel_rfl) ?_ _
    go_wp2_with fail
    go_region_held3 (fun W => W.cell? ⟨w.heap.size, 0, none⟩ = some (.slice A n0 c) ∧ W.cell? ⟨w.heap.size, 1, none⟩ = some (.int .i64 e) ∧ W.cell? ⟨w.heap.size + 1, 0, none⟩ = some (.int .i64 2) ∧ W.cell? ⟨w.heap.size + 1, 1, none⟩ = some (.int .i64 (Int.negSucc k))) (exact HK.out _ (by repeat (first | exact FA.out | exact FU.out | exact FO.out | exact Fr.refl _ _ | apply Fr.drewN | apply Fr.drew | refine Fr.setCell ?_ (.inl (.inl rfl)) _))) ((go_at_call 12; refine (HCT.out _ (RG.out _ (by repeat (first | exact FUF.out | exact FN.out | apply Fr.drewN | apply Fr.drew)))).mono ?_; rintro x6 w6 ⟨rfl, h6, hf6⟩; have S6 := Lib.hid h6; have FX : Hid (Fr (Foot g v) w3 w6) := Lib.hid (Fr.trans (S := Foot g v) (Fr.mono (show Fr No w3 _ from (by repeat (first | exact FUF.out | exact FN.out | apply Fr.drewN | apply Fr.drew))) (fun _ h => h.elim)) hf6 (fun i hi => .inl hi)); have FU := Lib.hid (FX.out.mono (S' := SS w g v) (fun _ h => .inr h)); have z6 := HRB.out w6 FX.out; have r0 : w6.cell? ⟨w.heap.size + 1 + 1, 0, none⟩ = some (.slice none 0 0) := cell_of z6 0; have r1 : w6.cell? ⟨w.heap.size + 1 + 1, 1, none⟩ = some (.int .i64 0) := cell_of z6 1; have q0 := free_of z6 0; have q1 := free_of z6 1; have Z6 := Lib.hid z6; clear z6; clear h6 hf6))
    all_goals
      go_wp2_with fail
      have FE : Fr (fun j => j = w.heap.size + 1 + 1) w6 _ := ((Fr.refl (fun j => j = w.heap.size + 1 + 1) w6).setCell (p := ⟨w.heap.size + 1 + 1, 0, none⟩) (.inl rfl) (.slice A n0 c)).setCell (p := ⟨w.heap.size + 1 + 1, 1, none⟩) (.inl rfl) (.int .i64 e)
      refine bodyPost_ret (res_ct rfl _ _ (w.heap.size + 1 + 1) 26 #[.slice A n0 c, .int .i64 e] _ rfl (by repeat (first | exact set2_of Z6.out _ _ | apply drewN_of | apply drew_of)) Try.underlying26 rfl (by kernel_rfl)) rfl ?_
      exact close HFT.out FW.out FX.out S6.out (HROW.out w6 FX.out) (HS.out.inv) (by omega) (own_ne_blk (HROW.out w6 FX.out) Z6.out (by decide)) (by repeat (first | exact FE | apply Fr.drewN | apply Fr.drew))

set_option maxRecDepth 100000 in
set_option maxHeartbeats 12800000 in
theorem det_S2 (B g : Nat) (v bv : Value) (l : List Mb) (e t : Int) (w : World) (hs : Both w B g v bv l e) (he : e < 1000000) (ht0 : 0 ≤ t) (ht : (l.length : Int) ≤ t) :
    Calls Try.prog 26 #[.pointer (some ⟨g, 0, none⟩), .agg #[bv, .int .i64 e], .agg #[.int .i64 2, .int .i64 t]] w (StepPost B g v l e w) := by
  obtain ⟨A, c, rfl, _⟩ := hs.row.slice
  obtain ⟨n0, hn0⟩ : ∃ n0, n0 = l.length := ⟨_, rfl⟩
  obtain ⟨y, hy⟩ : ∃ y, y = ofI l t := ⟨_, rfl⟩
  have hyl := ofI_live hs.inv t
  rw [← hy] at hyl
  rw [atL_length, ← hn0]
  have HS := Lib.hid hs
  have HN := Lib.hid hn0
  have HY := Lib.hid hy
  have HE := Lib.hid he
  have hl8 : n0 ≤ 8 := by rw [hn0]; exact hs.reg.len
  have HFT := Lib.hid (show ∀ k, Foot g v k → B ≤ k ∧ k < w.heap.size from fun k hk => hs.reg.foot_lt k hk)
  have HOB : Hid (∀ X : World, Fr No w X → Calls Try.prog 33 #[.agg #[.slice A n0 c, .int .i64 e], .int .i64 t] X (Same X (.int .i64 y))) := Lib.hid (fun X hX => by
    have h := of_book A c l e t X (by have h := (hs.row.fr hX (fun _ _ h => h)).rd; rw [atL_length] at h; exact h)
    rw [← hn0, ← hy] at h
    exact h)
  clear hs hn0 hy he
  go_enter Try.func26, Try.ntmps26
  go_wp2_with fail
  have N0 := heap3_old w (.cells #[.slice A n0 c, .int .i64 e] 26) (.cells #[.int .i64 2, .int .i64 t] 35) (.cells #[.slice none 0 0, .int .i64 0] 26)
  have N1 := heap3_mid w (.cells #[.slice A n0 c, .int .i64 e] 26) (.cells #[.int .i64 2, .int .i64 t] 35) (.cells #[.slice none 0 0, .int .i64 0] 26)
  have N2 := heap3_new w (.cells #[.slice A n0 c, .int .i64 e] 26) (.cells #[.int .i64 2, .int .i64 t] 35) (.cells #[.slice none 0 0, .int .i64 0] 26)
  have FW := Lib.hid ((((Fr.refl No w).alloc (.cells #[.slice A n0 c, .int .i64 e] 26)).alloc (.cells #[.int .i64 2, .int .i64 t] 35)).alloc (.cells #[.slice none 0 0, .int .i64 0] 26))
  have hz : (((w.alloc (.cells #[.slice A n0 c, .int .i64 e] 26)).alloc (.cells #[.int .i64 2, .int .i64 t] 35)).alloc (.cells #[.slice none 0 0, .int .i64 0] 26)).heap.size = w.heap.size + 1 + 1 + 1 := by simp
  generalize ((w.alloc (.cells #[.slice A n0 c, .int .i64 e] 26)).alloc (.cells #[.int .i64 2, .int .i64 t] 35)).alloc (.cells #[.slice none 0 0, .int .i64 0] 26) = w3 at N0 N1 N2 FW hz ⊢
  have HK : Hid (∀ W : World, Fr (SS w g v) w3 W → BK w A n0 c e 2 t W) := Lib.hid (fun W hW => by
    have h0 : ¬ SS w g v w.heap.size := by rintro (h | h); · omega
                                           · have := (HFT.out _ h).2; omega
    have h1 : ¬ SS w g v (w.heap.size + 1) := by rintro (h | h); · omega
                                                 · have := (HFT.out _ h).2; omega
    exact ⟨cell_of (hW.blk N0 h0) 0, cell_of (hW.blk N0 h0) 1, cell_of (hW.blk N1 h1) 0, cell_of (hW.blk N1 h1) 1⟩)
  have HRB : Hid (∀ W : World, Fr (Foot g v) w3 W → W.heap[w.heap.size + 1 + 1]? = some (.cells #[.slice none 0 0, .int .i64 0] 26 (0, 0))) := Lib.hid (fun W hW => hW.blk N2 (fun h => by have := (HFT.out _ h).2; omega))
  clear N0 N1 N2
  obtain ⟨b0, b1, b2, b3⟩ := HK.out w3 (Fr.refl _ _)
  have g3 : decide (0 ≤ y) = liveB l t := hyl
  have HLV := Lib.hid hyl
  clear hyl
  · have hlv := liveB_past l t ht
    have hab : attachB l t = false := by unfold attachB; rw [decide_eq_false (show ¬ t < (l.length : Int) by omega)]; simp
    have gA : decide (0 ≤ t) = true := by simp; omega
    have gB : decide (t < (n0 : Int)) = false := by rw [HN.out]; simp; omega
    have gL : decide (0 ≤ y) = false := by rw [g3]; exact hlv
    clear g3 ht ht0
    have RG := Lib.hid (fun (W : World) (hW : Fr No w3 W) => HS.out.reg.no (FW.out.trans hW (fun i h => h.elim)))
    have HROW := Lib.hid (fun (W : World) (hW : Fr (Foot g v) w3 W) => show Own W B (.slice A n0 c) (atL l) by
      have h := (HS.out.row.fr FW.out (fun _ _ h => h)).fr hW (fun k hk h => HS.out.sep k hk h)
      rw [atL_length, ← HN.out] at h
      exact h)
    have HCT : Hid (∀ W : World, Reg W B g v l e → Calls Try.prog 12 #[.pointer (some ⟨g, 0, none⟩), .int .i64 t] W (PutPost B g v l e (.bool false) W)) := Lib.hid (fun W hW => by
      have h := detach_any B g v l e t W hW
      rw [show detachL l t = l by unfold detachL; rw [hlv]; rfl, hlv] at h
      exact h)
    clear hlv hab
    refine wp_region_held_drew (S := (fun W => W.cell? ⟨w.heap.size, 0, none⟩ = some (.slice A n0 c) ∧ W.cell? ⟨w.heap.size, 1, none⟩ = some (.int .i64 e) ∧ W.cell? ⟨w.heap.size + 1, 0, none⟩ = some (.int .i64 2) ∧ W.cell? ⟨w.heap.size + 1, 1, none⟩ = some (.int .i64 t))) (by kernel_rfl) (HK.out _ (Fr.drew (Fr.refl _ _))) (fun hHeld => ?_)
    refine wpAnyH_take (i := 0) (v := ?_) rfl (by kernel_rfl) (by kernel_rfl) (by kernel_rfl) (fun _ _ _ h => h) (Or.inl ⟨by rfl, ?_⟩) (by assumption) ?_
    rotate_left
    · (intro w_ hSw; (try dsimp only at hSw); go_simp; (first | done | with_reducible rfl))
    (try simp only [Act.put, List.setIfInBounds_toArray, List.set_cons_zero, List.set_cons_succ, List.getElem_toArray, List.getElem_cons_succ, List.getElem_cons_zero])
    refine wpAnyH_take (i := 1) (v := ?_) rfl (by kernel_rfl) (by kernel_rfl) (by kernel_rfl) (fun _ _ _ h => h) (Or.inl ⟨by rfl, ?_⟩) (by assumption) ?_
    rotate_left
    · (intro w_ hSw; (try dsimp only at hSw); go_simp; (first | done | with_reducible rfl))
    (try simp only [Act.put, List.setIfInBounds_toArray, List.set_cons_zero, List.set_cons_succ, List.getElem_toArray, List.getElem_cons_succ, List.getElem_cons_zero])
    refine wpAnyH_take (i := 2) (v := ?_) rfl (by kernel_rfl) (by kernel_rfl) (by kernel_rfl) (fun _ _ _ h => h) (Or.inl ⟨by rfl, ?_⟩) (by assumption) ?_
    rotate_left
    · (intro w_ hSw; (try dsimp only at hSw); go_simp; (first | done | with_reducible rfl))
    (try simp only [Act.put, List.setIfInBounds_toArray, List.set_cons_zero, List.set_cons_succ, List.getElem_toArray, List.getElem_cons_succ, List.getElem_cons_zero])
    refine wpAnyH_take (i := 3) (v := ?_) rfl (by kernel_rfl) (by kernel_rfl) (by kernel_rfl) (fun _ _ _ h => h) (Or.inl ⟨by rfl, ?_⟩) (by assumption) ?_
    rotate_left
    · (intro w_ hSw; (try dsimp only at hSw); go_simp; (first | done | with_reducible rfl))
    (try simp only [Act.put, List.setIfInBounds_toArray, List.set_cons_zero, List.set_cons_succ, List.getElem_toArray, List.getElem_cons_succ, List.getElem_cons_zero])
    refine wpAnyH_take (i := 4) (v := ?_) rfl (by kernel_rfl) (by kernel_rfl) (by kernel_rfl) (fun _ _ _ h => h) (Or.inl ⟨by rfl, ?_⟩) (by assumption) ?_
    rotate_left
    · (intro w_ hSw; (try dsimp only at hSw); go_simp; (first | done | with_reducible rfl))
    (try simp only [Act.put, List.setIfInBounds_toArray, List.set_cons_zero, List.set_cons_succ, List.getElem_toArray, List.getElem_cons_succ, List.getElem_cons_zero])
    refine wpAnyH_take (i := 5) (v := ?_) rfl (by kernel_rfl) (by kernel_rfl) (by kernel_rfl) (fun _ _ _ h => h) (Or.inl ⟨by rfl, ?_⟩) (by assumption) ?_
    rotate_left
    · (intro w_ hSw; (try dsimp only at hSw); go_simp; (first | done | with_reducible rfl))
    (try simp only [Act.put, List.setIfInBounds_toArray, List.set_cons_zero, List.set_cons_succ, List.getElem_toArray, List.getElem_cons_succ, List.getElem_cons_zero])
    refine wpAnyH_take (i := 6) (v := ?_) rfl (by kernel_rfl) (by kernel_rfl) (by kernel_rfl) (fun _ _ _ h => h) (Or.inl ⟨by rfl, ?_⟩) (by assumption) ?_
    rotate_left
    · (intro w_ hSw; (try dsimp only at hSw); go_simp; (first | done | with_reducible rfl))
    (try simp only [Act.put, List.setIfInBounds_toArray, List.set_cons_zero, List.set_cons_succ, List.getElem_toArray, List.getElem_cons_succ, List.getElem_cons_zero])
    refine wpAnyH_take (i := 7) (v := ?_) rfl (by kernel_rfl) (by kernel_rfl) (by kernel_rfl) (fun _ _ _ h => h) (Or.inl ⟨by rfl, ?_⟩) (by assumption) ?_
    rotate_left
    · (intro w_ hSw; (try dsimp only at hSw); go_simp; (first | done | with_reducible rfl))
    (try simp only [Act.put, List.setIfInBounds_toArray, List.set_cons_zero, List.set_cons_succ, List.getElem_toArray, List.getElem_cons_succ, List.getElem_cons_zero])
    refine wpAnyH_take (i := 8) (v := ?_) rfl (by kernel_rfl) (by kernel_rfl) (by kernel_rfl) (fun _ _ _ h => h) (Or.inl ⟨by rfl, ?_⟩) (by assumption) ?_
    rotate_left
    · (intro w_ hSw; (try dsimp only at hSw); go_simp; (first | done | with_reducible rfl))
    (try simp only [Act.put, List.setIfInBounds_toArray, List.set_cons_zero, List.set_cons_succ, List.getElem_toArray, List.getElem_cons_succ, List.getElem_cons_zero])
    refine wpAnyH_take (i := 9) (v := ?_) rfl (by kernel_rfl) (by kernel_rfl) (by kernel_rfl) (fun _ _ _ h => h) (Or.inl ⟨by rfl, ?_⟩) (by assumption) ?_
    rotate_left
    · (intro w_ hSw; (try dsimp only at hSw); go_simp; (first | done | with_reducible rfl))
    (try simp only [Act.put, List.setIfInBounds_toArray, List.set_cons_zero, List.set_cons_succ, List.getElem_toArray, List.getElem_cons_succ, List.getElem_cons_zero])
    refine wpAnyH_take (i := 10) (v := ?_) rfl (by kernel_rfl) (by kernel_rfl) (by kernel_rfl) (fun _ _ _ h => h) (Or.inl ⟨by rfl, ?_⟩) (by assumption) ?_
    rotate_left
    · (intro w_ hSw; (try dsimp only at hSw); go_simp; (first | done | with_reducible rfl))
    (try simp only [Act.put, List.setIfInBounds_toArray, List.set_cons_zero, List.set_cons_succ, List.getElem_toArray, List.getElem_cons_succ, List.getElem_cons_zero])
    refine wpAnyH_take (i := 11) (v := ?_) rfl (by kernel_rfl) (by kernel_rfl) (by kernel_rfl) (fun _ _ _ h => h) (Or.inl ⟨by rfl, ?_⟩) (by assumption) ?_
    rotate_left
    · (intro w_ hSw; (try dsimp only at hSw); go_simp; (first | done | with_reducible rfl))
    (try simp only [Act.put, List.setIfInBounds_toArray, List.set_cons_zero, List.set_cons_succ, List.getElem_toArray, List.getElem_cons_succ, List.getElem_cons_zero])
    refine wpAnyH_take (i := 12) (v := ?_) rfl (by kernel_rfl) (by kernel_rfl) (by kernel_rfl) (fun _ _ _ h => h) (Or.inl ⟨by rfl, ?_⟩) (by assumption) ?_
    rotate_left
    · (intro w_ hSw; (try dsimp only at hSw); go_simp; (first | done | with_reducible rfl))
    (try simp only [Act.put, List.setIfInBounds_toArray, List.set_cons_zero, List.set_cons_succ, List.getElem_toArray, List.getElem_cons_succ, List.getElem_cons_zero])
    refine wpAnyH_take (i := 13) (v := ?_) rfl (by kernel_rfl) (by kernel_rfl) (by kernel_rfl) (fun _ _ _ h => h) (Or.inl ⟨by rfl, ?_⟩) (by assumption) ?_
    rotate_left
    · (intro w_ hSw; (try dsimp only at hSw); go_simp; (first | done | with_reducible rfl))
    (try simp only [Act.put, List.setIfInBounds_toArray, List.set_cons_zero, List.set_cons_succ, List.getElem_toArray, List.getElem_cons_succ, List.getElem_cons_zero])
    refine wpAnyH_ready (rs := [14]) (by kernel_rfl) (by simp) ?_
    refine AllReadyH.cons rfl (fun K hK => ?_) AllReadyH.nil
    go_simp
    go_at_call 33
    refine (HOB.out _ (by repeat (first | exact FW.out | apply Fr.drewN | apply Fr.drew))).mono ?_
    rintro x1 w5 ⟨rfl, h5⟩
    have FN := Lib.hid (Fr.then_below (Fr.drew (Fr.refl No w3)) h5)
    have FO := Lib.hid (FN.out.mono (S' := SS w g v) (fun _ h => h.elim))
    clear h5 hHeld
    refine hK.out _ _ (HK.out _ FO.out) (fun hHeld => ?_)
    clear hK K
    (try simp only [Act.put, List.setIfInBounds_toArray, List.set_cons_zero, List.set_cons_succ, List.getElem_toArray, List.getElem_cons_succ, List.getElem_cons_zero])
    refine wpAnyH_take (i := 15) (v := ?_) rfl (by kernel_rfl) (by kernel_rfl) (by kernel_rfl) (fun _ _ _ h => h) (Or.inl ⟨by rfl, ?_⟩) (by assumption) ?_
    rotate_left
    · (intro w_ hSw; (try dsimp only at hSw); go_simp; (first | done | with_reducible rfl))
    (try simp only [Act.put, List.setIfInBounds_toArray, List.set_cons_zero, List.set_cons_succ, List.getElem_toArray, List.getElem_cons_succ, List.getElem_cons_zero])
    refine wpAnyH_take (i := 16) (v := ?_) rfl (by kernel_rfl) (by kernel_rfl) (by kernel_rfl) (fun _ _ _ h => h) (Or.inl ⟨by rfl, ?_⟩) (by assumption) ?_
    rotate_left
    · (intro w_ hSw; (try dsimp only at hSw); go_simp; (first | done | with_reducible rfl))
    (try simp only [Act.put, List.setIfInBounds_toArray, List.set_cons_zero, List.set_cons_succ, List.getElem_toArray, List.getElem_cons_succ, List.getElem_cons_zero])
    refine wpAnyH_take (i := 17) (v := ?_) rfl (by kernel_rfl) (by kernel_rfl) (by kernel_rfl) (fun _ _ _ h => h) (Or.inl ⟨by rfl, ?_⟩) (by assumption) ?_
    rotate_left
    · (intro w_ hSw; (try dsimp only at hSw); go_simp; (first | done | with_reducible rfl))
    (try simp only [Act.put, List.setIfInBounds_toArray, List.set_cons_zero, List.set_cons_succ, List.getElem_toArray, List.getElem_cons_succ, List.getElem_cons_zero])
    refine wpAnyH_done (by kernel_rfl) ?_ _
    go_wp2_with fail
    go_region_held3 (fun W => W.cell? ⟨w.heap.size, 0, none⟩ = some (.slice A n0 c) ∧ W.cell? ⟨w.heap.size, 1, none⟩ = some (.int .i64 e) ∧ W.cell? ⟨w.heap.size + 1, 0, none⟩ = some (.int .i64 2) ∧ W.cell? ⟨w.heap.size + 1, 1, none⟩ = some (.int .i64 t)) (exact HK.out _ (by repeat (first | exact FA.out | exact FU.out | exact FO.out | exact Fr.refl _ _ | apply Fr.drewN | apply Fr.drew | refine Fr.setCell ?_ (.inl (.inl rfl)) _))) ((go_at_call 12; refine (HCT.out _ (RG.out _ (by repeat (first | exact FUF.out | exact FN.out | apply Fr.drewN | apply Fr.drew)))).mono ?_; rintro x6 w6 ⟨rfl, h6, hf6⟩; have S6 := Lib.hid h6; have FX : Hid (Fr (Foot g v) w3 w6) := Lib.hid (Fr.trans (S := Foot g v) (Fr.mono (show Fr No w3 _ from (by repeat (first | exact FUF.out | exact FN.out | apply Fr.drewN | apply Fr.drew))) (fun _ h => h.elim)) hf6 (fun i hi => .inl hi)); have FU := Lib.hid (FX.out.mono (S' := SS w g v) (fun _ h => .inr h)); have z6 := HRB.out w6 FX.out; have r0 : w6.cell? ⟨w.heap.size + 1 + 1, 0, none⟩ = some (.slice none 0 0) := cell_of z6 0; have r1 : w6.cell? ⟨w.heap.size + 1 + 1, 1, none⟩ = some (.int .i64 0) := cell_of z6 1; have q0 := free_of z6 0; have q1 := free_of z6 1; have Z6 := Lib.hid z6; clear z6; clear h6 hf6))
    all_goals
      go_wp2_with fail
      have FE : Fr (fun j => j = w.heap.size + 1 + 1) w6 _ := ((Fr.refl (fun j => j = w.heap.size + 1 + 1) w6).setCell (p := ⟨w.heap.size + 1 + 1, 0, none⟩) (.inl rfl) (.slice A n0 c)).setCell (p := ⟨w.heap.size + 1 + 1, 1, none⟩) (.inl rfl) (.int .i64 e)
      refine bodyPost_ret (res_ct rfl _ _ (w.heap.size + 1 + 1) 26 #[.slice A n0 c, .int .i64 e] _ rfl (by repeat (first | exact set2_of Z6.out _ _ | apply drewN_of | apply drew_of)) Try.underlying26 rfl (by kernel_rfl)) rfl ?_
      exact close HFT.out FW.out FX.out S6.out (HROW.out w6 FX.out) (HS.out.inv) (by omega) (own_ne_blk (HROW.out w6 FX.out) Z6.out (by decide)) (by repeat (first | exact FE | apply Fr.drewN | apply Fr.drew))

set_option maxRecDepth 100000 in
set_option maxHeartbeats 12800000 in
theorem det_S3 (B g : Nat) (v bv : Value) (l : List Mb) (e t : Int) (w : World) (hs : Both w B g v bv l e) (he : e < 1000000) (k : Nat) (ht : t = (k : Int)) (hk : k < l.length) (hl : liveB l (k : Int) = false) :
    Calls Try.prog 26 #[.pointer (some ⟨g, 0, none⟩), .agg #[bv, .int .i64 e], .agg #[.int .i64 2, .int .i64 t]] w (StepPost B g v l e w) := by
  obtain ⟨A, c, rfl, _⟩ := hs.row.slice
  have HT_ := Lib.hid ht
  have HH_ := Lib.hid hl
  clear ht hl
  obtain ⟨n0, hn0⟩ : ∃ n0, n0 = l.length := ⟨_, rfl⟩
  obtain ⟨y, hy⟩ : ∃ y, y = ofI l t := ⟨_, rfl⟩
  have hyl := ofI_live hs.inv t
  rw [← hy] at hyl
  rw [atL_length, ← hn0]
  have HS := Lib.hid hs
  have HN := Lib.hid hn0
  have HY := Lib.hid hy
  have HE := Lib.hid he
  have hl8 : n0 ≤ 8 := by rw [hn0]; exact hs.reg.len
  have HFT := Lib.hid (show ∀ k, Foot g v k → B ≤ k ∧ k < w.heap.size from fun k hk => hs.reg.foot_lt k hk)
  have HOB : Hid (∀ X : World, Fr No w X → Calls Try.prog 33 #[.agg #[.slice A n0 c, .int .i64 e], .int .i64 t] X (Same X (.int .i64 y))) := Lib.hid (fun X hX => by
    have h := of_book A c l e t X (by have h := (hs.row.fr hX (fun _ _ h => h)).rd; rw [atL_length] at h; exact h)
    rw [← hn0, ← hy] at h
    exact h)
  clear hs hn0 hy he
  go_enter Try.func26, Try.ntmps26
  go_wp2_with fail
  have N0 := heap3_old w (.cells #[.slice A n0 c, .int .i64 e] 26) (.cells #[.int .i64 2, .int .i64 t] 35) (.cells #[.slice none 0 0, .int .i64 0] 26)
  have N1 := heap3_mid w (.cells #[.slice A n0 c, .int .i64 e] 26) (.cells #[.int .i64 2, .int .i64 t] 35) (.cells #[.slice none 0 0, .int .i64 0] 26)
  have N2 := heap3_new w (.cells #[.slice A n0 c, .int .i64 e] 26) (.cells #[.int .i64 2, .int .i64 t] 35) (.cells #[.slice none 0 0, .int .i64 0] 26)
  have FW := Lib.hid ((((Fr.refl No w).alloc (.cells #[.slice A n0 c, .int .i64 e] 26)).alloc (.cells #[.int .i64 2, .int .i64 t] 35)).alloc (.cells #[.slice none 0 0, .int .i64 0] 26))
  have hz : (((w.alloc (.cells #[.slice A n0 c, .int .i64 e] 26)).alloc (.cells #[.int .i64 2, .int .i64 t] 35)).alloc (.cells #[.slice none 0 0, .int .i64 0] 26)).heap.size = w.heap.size + 1 + 1 + 1 := by simp
  generalize ((w.alloc (.cells #[.slice A n0 c, .int .i64 e] 26)).alloc (.cells #[.int .i64 2, .int .i64 t] 35)).alloc (.cells #[.slice none 0 0, .int .i64 0] 26) = w3 at N0 N1 N2 FW hz ⊢
  have HK : Hid (∀ W : World, Fr (SS w g v) w3 W → BK w A n0 c e 2 t W) := Lib.hid (fun W hW => by
    have h0 : ¬ SS w g v w.heap.size := by rintro (h | h); · omega
                                           · have := (HFT.out _ h).2; omega
    have h1 : ¬ SS w g v (w.heap.size + 1) := by rintro (h | h); · omega
                                                 · have := (HFT.out _ h).2; omega
    exact ⟨cell_of (hW.blk N0 h0) 0, cell_of (hW.blk N0 h0) 1, cell_of (hW.blk N1 h1) 0, cell_of (hW.blk N1 h1) 1⟩)
  have HRB : Hid (∀ W : World, Fr (Foot g v) w3 W → W.heap[w.heap.size + 1 + 1]? = some (.cells #[.slice none 0 0, .int .i64 0] 26 (0, 0))) := Lib.hid (fun W hW => hW.blk N2 (fun h => by have := (HFT.out _ h).2; omega))
  clear N0 N1 N2
  obtain ⟨b0, b1, b2, b3⟩ := HK.out w3 (Fr.refl _ _)
  have g3 : decide (0 ≤ y) = liveB l t := hyl
  have HLV := Lib.hid hyl
  clear hyl
  · have ht := HT_.out
    subst ht
    have hl := HH_.out
    have hlv := hl
    have hab : attachB l (k : Int) = true := by unfold attachB; rw [hl, decide_eq_true (show (0 : Int) ≤ (k : Int) by omega), decide_eq_true (show (k : Int) < (l.length : Int) by omega)]; rfl
    have HKL := Lib.hid hk
    have i1 : (0 : Int) ≤ (k : Int) := Int.natCast_nonneg _
    have i2 : (k : Int) < (n0 : Int) := by rw [HN.out]; omega
    have gB : decide ((k : Int) < (n0 : Int)) = true := decide_eq_true i2
    have gL : decide (0 ≤ y) = false := by rw [g3]; exact hlv
    clear g3 hk hl HH_
    have RG := Lib.hid (fun (W : World) (hW : Fr No w3 W) => HS.out.reg.no (FW.out.trans hW (fun i h => h.elim)))
    have HROW := Lib.hid (fun (W : World) (hW : Fr (Foot g v) w3 W) => show Own W B (.slice A n0 c) (atL l) by
      have h := (HS.out.row.fr FW.out (fun _ _ h => h)).fr hW (fun k hk h => HS.out.sep k hk h)
      rw [atL_length, ← HN.out] at h
      exact h)
    have HCT : Hid (∀ W : World, Reg W B g v l e → Calls Try.prog 12 #[.pointer (some ⟨g, 0, none⟩), .int .i64 (k : Int)] W (PutPost B g v l e (.bool false) W)) := Lib.hid (fun W hW => by
      have h := detach_any B g v l e (k : Int) W hW
      rw [show detachL l (k : Int) = l by unfold detachL; rw [hlv]; rfl, hlv] at h
      exact h)
    clear hlv hab
    refine wp_region_held_drew (S := (fun W => W.cell? ⟨w.heap.size, 0, none⟩ = some (.slice A n0 c) ∧ W.cell? ⟨w.heap.size, 1, none⟩ = some (.int .i64 e) ∧ W.cell? ⟨w.heap.size + 1, 0, none⟩ = some (.int .i64 2) ∧ W.cell? ⟨w.heap.size + 1, 1, none⟩ = some (.int .i64 (k : Int)))) (by kernel_rfl) (HK.out _ (Fr.drew (Fr.refl _ _))) (fun hHeld => ?_)
    refine wpAnyH_take (i := 0) (v := ?_) rfl (by kernel_rfl) (by kernel_rfl) (by kernel_rfl) (fun _ _ _ h => h) (Or.inl ⟨by rfl, ?_⟩) (by assumption) ?_
    rotate_left
    · (intro w_ hSw; (try dsimp only at hSw); go_simp; (first | done | with_reducible rfl))
    (try simp only [Act.put, List.setIfInBounds_toArray, List.set_cons_zero, List.set_cons_succ, List.getElem_toArray, List.getElem_cons_succ, List.getElem_cons_zero])
    refine wpAnyH_take (i := 1) (v := ?_) rfl (by kernel_rfl) (by kernel_rfl) (by kernel_rfl) (fun _ _ _ h => h) (Or.inl ⟨by rfl, ?_⟩) (by assumption) ?_
    rotate_left
    · (intro w_ hSw; (try dsimp only at hSw); go_simp; (first | done | with_reducible rfl))
    (try simp only [Act.put, List.setIfInBounds_toArray, List.set_cons_zero, List.set_cons_succ, List.getElem_toArray, List.getElem_cons_succ, List.getElem_cons_zero])
    refine wpAnyH_take (i := 2) (v := ?_) rfl (by kernel_rfl) (by kernel_rfl) (by kernel_rfl) (fun _ _ _ h => h) (Or.inl ⟨by rfl, ?_⟩) (by assumption) ?_
    rotate_left
    · (intro w_ hSw; (try dsimp only at hSw); go_simp; (first | done | with_reducible rfl))
    (try simp only [Act.put, List.setIfInBounds_toArray, List.set_cons_zero, List.set_cons_succ, List.getElem_toArray, List.getElem_cons_succ, List.getElem_cons_zero])
    refine wpAnyH_take (i := 3) (v := ?_) rfl (by kernel_rfl) (by kernel_rfl) (by kernel_rfl) (fun _ _ _ h => h) (Or.inl ⟨by rfl, ?_⟩) (by assumption) ?_
    rotate_left
    · (intro w_ hSw; (try dsimp only at hSw); go_simp; (first | done | with_reducible rfl))
    (try simp only [Act.put, List.setIfInBounds_toArray, List.set_cons_zero, List.set_cons_succ, List.getElem_toArray, List.getElem_cons_succ, List.getElem_cons_zero])
    refine wpAnyH_take (i := 4) (v := ?_) rfl (by kernel_rfl) (by kernel_rfl) (by kernel_rfl) (fun _ _ _ h => h) (Or.inl ⟨by rfl, ?_⟩) (by assumption) ?_
    rotate_left
    · (intro w_ hSw; (try dsimp only at hSw); go_simp; (first | done | with_reducible rfl))
    (try simp only [Act.put, List.setIfInBounds_toArray, List.set_cons_zero, List.set_cons_succ, List.getElem_toArray, List.getElem_cons_succ, List.getElem_cons_zero])
    refine wpAnyH_take (i := 5) (v := ?_) rfl (by kernel_rfl) (by kernel_rfl) (by kernel_rfl) (fun _ _ _ h => h) (Or.inl ⟨by rfl, ?_⟩) (by assumption) ?_
    rotate_left
    · (intro w_ hSw; (try dsimp only at hSw); go_simp; (first | done | with_reducible rfl))
    (try simp only [Act.put, List.setIfInBounds_toArray, List.set_cons_zero, List.set_cons_succ, List.getElem_toArray, List.getElem_cons_succ, List.getElem_cons_zero])
    refine wpAnyH_take (i := 6) (v := ?_) rfl (by kernel_rfl) (by kernel_rfl) (by kernel_rfl) (fun _ _ _ h => h) (Or.inl ⟨by rfl, ?_⟩) (by assumption) ?_
    rotate_left
    · (intro w_ hSw; (try dsimp only at hSw); go_simp; (first | done | with_reducible rfl))
    (try simp only [Act.put, List.setIfInBounds_toArray, List.set_cons_zero, List.set_cons_succ, List.getElem_toArray, List.getElem_cons_succ, List.getElem_cons_zero])
    refine wpAnyH_take (i := 7) (v := ?_) rfl (by kernel_rfl) (by kernel_rfl) (by kernel_rfl) (fun _ _ _ h => h) (Or.inl ⟨by rfl, ?_⟩) (by assumption) ?_
    rotate_left
    · (intro w_ hSw; (try dsimp only at hSw); go_simp; (first | done | with_reducible rfl))
    (try simp only [Act.put, List.setIfInBounds_toArray, List.set_cons_zero, List.set_cons_succ, List.getElem_toArray, List.getElem_cons_succ, List.getElem_cons_zero])
    refine wpAnyH_take (i := 8) (v := ?_) rfl (by kernel_rfl) (by kernel_rfl) (by kernel_rfl) (fun _ _ _ h => h) (Or.inl ⟨by rfl, ?_⟩) (by assumption) ?_
    rotate_left
    · (intro w_ hSw; (try dsimp only at hSw); go_simp; (first | done | with_reducible rfl))
    (try simp only [Act.put, List.setIfInBounds_toArray, List.set_cons_zero, List.set_cons_succ, List.getElem_toArray, List.getElem_cons_succ, List.getElem_cons_zero])
    refine wpAnyH_take (i := 9) (v := ?_) rfl (by kernel_rfl) (by kernel_rfl) (by kernel_rfl) (fun _ _ _ h => h) (Or.inl ⟨by rfl, ?_⟩) (by assumption) ?_
    rotate_left
    · (intro w_ hSw; (try dsimp only at hSw); go_simp; (first | done | with_reducible rfl))
    (try simp only [Act.put, List.setIfInBounds_toArray, List.set_cons_zero, List.set_cons_succ, List.getElem_toArray, List.getElem_cons_succ, List.getElem_cons_zero])
    refine wpAnyH_take (i := 10) (v := ?_) rfl (by kernel_rfl) (by kernel_rfl) (by kernel_rfl) (fun _ _ _ h => h) (Or.inl ⟨by rfl, ?_⟩) (by assumption) ?_
    rotate_left
    · (intro w_ hSw; (try dsimp only at hSw); go_simp; (first | done | with_reducible rfl))
    (try simp only [Act.put, List.setIfInBounds_toArray, List.set_cons_zero, List.set_cons_succ, List.getElem_toArray, List.getElem_cons_succ, List.getElem_cons_zero])
    refine wpAnyH_take (i := 11) (v := ?_) rfl (by kernel_rfl) (by kernel_rfl) (by kernel_rfl) (fun _ _ _ h => h) (Or.inl ⟨by rfl, ?_⟩) (by assumption) ?_
    rotate_left
    · (intro w_ hSw; (try dsimp only at hSw); go_simp; (first | done | with_reducible rfl))
    (try simp only [Act.put, List.setIfInBounds_toArray, List.set_cons_zero, List.set_cons_succ, List.getElem_toArray, List.getElem_cons_succ, List.getElem_cons_zero])
    refine wpAnyH_take (i := 12) (v := ?_) rfl (by kernel_rfl) (by kernel_rfl) (by kernel_rfl) (fun _ _ _ h => h) (Or.inl ⟨by rfl, ?_⟩) (by assumption) ?_
    rotate_left
    · (intro w_ hSw; (try dsimp only at hSw); go_simp; (first | done | with_reducible rfl))
    (try simp only [Act.put, List.setIfInBounds_toArray, List.set_cons_zero, List.set_cons_succ, List.getElem_toArray, List.getElem_cons_succ, List.getElem_cons_zero])
    refine wpAnyH_take (i := 13) (v := ?_) rfl (by kernel_rfl) (by kernel_rfl) (by kernel_rfl) (fun _ _ _ h => h) (Or.inl ⟨by rfl, ?_⟩) (by assumption) ?_
    rotate_left
    · (intro w_ hSw; (try dsimp only at hSw); go_simp; (first | done | with_reducible rfl))
    (try simp only [Act.put, List.setIfInBounds_toArray, List.set_cons_zero, List.set_cons_succ, List.getElem_toArray, List.getElem_cons_succ, List.getElem_cons_zero])
    refine wpAnyH_ready (rs := [14]) (by kernel_rfl) (by simp) ?_
    refine AllReadyH.cons rfl (fun K hK => ?_) AllReadyH.nil
    go_simp
    go_at_call 33
    refine (HOB.out _ (by repeat (first | exact FW.out | apply Fr.drewN | apply Fr.drew))).mono ?_
    rintro x1 w5 ⟨rfl, h5⟩
    have FN := Lib.hid (Fr.then_below (Fr.drew (Fr.refl No w3)) h5)
    have FO := Lib.hid (FN.out.mono (S' := SS w g v) (fun _ h => h.elim))
    clear h5 hHeld
    refine hK.out _ _ (HK.out _ FO.out) (fun hHeld => ?_)
    clear hK K
    (try simp only [Act.put, List.setIfInBounds_toArray, List.set_cons_zero, List.set_cons_succ, List.getElem_toArray, List.getElem_cons_succ, List.getElem_cons_zero])
    refine wpAnyH_take (i := 15) (v := ?_) rfl (by kernel_rfl) (by kernel_rfl) (by kernel_rfl) (fun _ _ _ h => h) (Or.inl ⟨by rfl, ?_⟩) (by assumption) ?_
    rotate_left
    · (intro w_ hSw; (try dsimp only at hSw); go_simp; (first | done | with_reducible rfl))
    (try simp only [Act.put, List.setIfInBounds_toArray, List.set_cons_zero, List.set_cons_succ, List.getElem_toArray, List.getElem_cons_succ, List.getElem_cons_zero])
    refine wpAnyH_take (i := 16) (v := ?_) rfl (by kernel_rfl) (by kernel_rfl) (by kernel_rfl) (fun _ _ _ h => h) (Or.inl ⟨by rfl, ?_⟩) (by assumption) ?_
    rotate_left
    · (intro w_ hSw; (try dsimp only at hSw); go_simp; (first | done | with_reducible rfl))
    (try simp only [Act.put, List.setIfInBounds_toArray, List.set_cons_zero, List.set_cons_succ, List.getElem_toArray, List.getElem_cons_succ, List.getElem_cons_zero])
    refine wpAnyH_take (i := 17) (v := ?_) rfl (by kernel_rfl) (by kernel_rfl) (by kernel_rfl) (fun _ _ _ h => h) (Or.inl ⟨by rfl, ?_⟩) (by assumption) ?_
    rotate_left
    · (intro w_ hSw; (try dsimp only at hSw); go_simp; (first | done | with_reducible rfl))
    (try simp only [Act.put, List.setIfInBounds_toArray, List.set_cons_zero, List.set_cons_succ, List.getElem_toArray, List.getElem_cons_succ, List.getElem_cons_zero])
    refine wpAnyH_done (by kernel_rfl) ?_ _
    go_wp2_with fail
    go_region_held3 (fun W => W.cell? ⟨w.heap.size, 0, none⟩ = some (.slice A n0 c) ∧ W.cell? ⟨w.heap.size, 1, none⟩ = some (.int .i64 e) ∧ W.cell? ⟨w.heap.size + 1, 0, none⟩ = some (.int .i64 2) ∧ W.cell? ⟨w.heap.size + 1, 1, none⟩ = some (.int .i64 (k : Int))) (exact HK.out _ (by repeat (first | exact FA.out | exact FU.out | exact FO.out | exact Fr.refl _ _ | apply Fr.drewN | apply Fr.drew | refine Fr.setCell ?_ (.inl (.inl rfl)) _))) ((go_at_call 12; refine (HCT.out _ (RG.out _ (by repeat (first | exact FUF.out | exact FN.out | apply Fr.drewN | apply Fr.drew)))).mono ?_; rintro x6 w6 ⟨rfl, h6, hf6⟩; have S6 := Lib.hid h6; have FX : Hid (Fr (Foot g v) w3 w6) := Lib.hid (Fr.trans (S := Foot g v) (Fr.mono (show Fr No w3 _ from (by repeat (first | exact FUF.out | exact FN.out | apply Fr.drewN | apply Fr.drew))) (fun _ h => h.elim)) hf6 (fun i hi => .inl hi)); have FU := Lib.hid (FX.out.mono (S' := SS w g v) (fun _ h => .inr h)); have z6 := HRB.out w6 FX.out; have r0 : w6.cell? ⟨w.heap.size + 1 + 1, 0, none⟩ = some (.slice none 0 0) := cell_of z6 0; have r1 : w6.cell? ⟨w.heap.size + 1 + 1, 1, none⟩ = some (.int .i64 0) := cell_of z6 1; have q0 := free_of z6 0; have q1 := free_of z6 1; have Z6 := Lib.hid z6; clear z6; clear h6 hf6))
    all_goals
      go_wp2_with fail
      have FE : Fr (fun j => j = w.heap.size + 1 + 1) w6 _ := ((Fr.refl (fun j => j = w.heap.size + 1 + 1) w6).setCell (p := ⟨w.heap.size + 1 + 1, 0, none⟩) (.inl rfl) (.slice A n0 c)).setCell (p := ⟨w.heap.size + 1 + 1, 1, none⟩) (.inl rfl) (.int .i64 e)
      refine bodyPost_ret (res_ct rfl _ _ (w.heap.size + 1 + 1) 26 #[.slice A n0 c, .int .i64 e] _ rfl (by repeat (first | exact set2_of Z6.out _ _ | apply drewN_of | apply drew_of)) Try.underlying26 rfl (by kernel_rfl)) rfl ?_
      exact close HFT.out FW.out FX.out S6.out (HROW.out w6 FX.out) (HS.out.inv) (by omega) (own_ne_blk (HROW.out w6 FX.out) Z6.out (by decide)) (by repeat (first | exact FE | apply Fr.drewN | apply Fr.drew))

set_option maxRecDepth 100000 in
set_option maxHeartbeats 12800000 in
theorem det_yes (B g : Nat) (v bv : Value) (l : List Mb) (e t : Int) (w : World) (hs : Both w B g v bv l e) (he : e < 1000000) (k : Nat) (ht : t = (k : Int)) (hk : k < l.length) (hl : liveB l (k : Int) = true) :
    Calls Try.prog 26 #[.pointer (some ⟨g, 0, none⟩), .agg #[bv, .int .i64 e], .agg #[.int .i64 2, .int .i64 t]] w (StepPost B g v l e w) := by
  obtain ⟨A, c, rfl, _⟩ := hs.row.slice
  have HT_ := Lib.hid ht
  have HH_ := Lib.hid hl
  clear ht hl
  obtain ⟨n0, hn0⟩ : ∃ n0, n0 = l.length := ⟨_, rfl⟩
  obtain ⟨y, hy⟩ : ∃ y, y = ofI l t := ⟨_, rfl⟩
  have hyl := ofI_live hs.inv t
  rw [← hy] at hyl
  rw [atL_length, ← hn0]
  have HS := Lib.hid hs
  have HN := Lib.hid hn0
  have HY := Lib.hid hy
  have HE := Lib.hid he
  have hl8 : n0 ≤ 8 := by rw [hn0]; exact hs.reg.len
  have HFT := Lib.hid (show ∀ k, Foot g v k → B ≤ k ∧ k < w.heap.size from fun k hk => hs.reg.foot_lt k hk)
  have HOB : Hid (∀ X : World, Fr No w X → Calls Try.prog 33 #[.agg #[.slice A n0 c, .int .i64 e], .int .i64 t] X (Same X (.int .i64 y))) := Lib.hid (fun X hX => by
    have h := of_book A c l e t X (by have h := (hs.row.fr hX (fun _ _ h => h)).rd; rw [atL_length] at h; exact h)
    rw [← hn0, ← hy] at h
    exact h)
  clear hs hn0 hy he
  go_enter Try.func26, Try.ntmps26
  go_wp2_with fail
  have N0 := heap3_old w (.cells #[.slice A n0 c, .int .i64 e] 26) (.cells #[.int .i64 2, .int .i64 t] 35) (.cells #[.slice none 0 0, .int .i64 0] 26)
  have N1 := heap3_mid w (.cells #[.slice A n0 c, .int .i64 e] 26) (.cells #[.int .i64 2, .int .i64 t] 35) (.cells #[.slice none 0 0, .int .i64 0] 26)
  have N2 := heap3_new w (.cells #[.slice A n0 c, .int .i64 e] 26) (.cells #[.int .i64 2, .int .i64 t] 35) (.cells #[.slice none 0 0, .int .i64 0] 26)
  have FW := Lib.hid ((((Fr.refl No w).alloc (.cells #[.slice A n0 c, .int .i64 e] 26)).alloc (.cells #[.int .i64 2, .int .i64 t] 35)).alloc (.cells #[.slice none 0 0, .int .i64 0] 26))
  have hz : (((w.alloc (.cells #[.slice A n0 c, .int .i64 e] 26)).alloc (.cells #[.int .i64 2, .int .i64 t] 35)).alloc (.cells #[.slice none 0 0, .int .i64 0] 26)).heap.size = w.heap.size + 1 + 1 + 1 := by simp
  generalize ((w.alloc (.cells #[.slice A n0 c, .int .i64 e] 26)).alloc (.cells #[.int .i64 2, .int .i64 t] 35)).alloc (.cells #[.slice none 0 0, .int .i64 0] 26) = w3 at N0 N1 N2 FW hz ⊢
  have HK : Hid (∀ W : World, Fr (SS w g v) w3 W → BK w A n0 c e 2 t W) := Lib.hid (fun W hW => by
    have h0 : ¬ SS w g v w.heap.size := by rintro (h | h); · omega
                                           · have := (HFT.out _ h).2; omega
    have h1 : ¬ SS w g v (w.heap.size + 1) := by rintro (h | h); · omega
                                                 · have := (HFT.out _ h).2; omega
    exact ⟨cell_of (hW.blk N0 h0) 0, cell_of (hW.blk N0 h0) 1, cell_of (hW.blk N1 h1) 0, cell_of (hW.blk N1 h1) 1⟩)
  have HRB : Hid (∀ W : World, Fr (Foot g v) w3 W → W.heap[w.heap.size + 1 + 1]? = some (.cells #[.slice none 0 0, .int .i64 0] 26 (0, 0))) := Lib.hid (fun W hW => hW.blk N2 (fun h => by have := (HFT.out _ h).2; omega))
  clear N0 N1 N2
  obtain ⟨b0, b1, b2, b3⟩ := HK.out w3 (Fr.refl _ _)
  have g3 : decide (0 ≤ y) = liveB l t := hyl
  have HLV := Lib.hid hyl
  clear hyl
  · have ht := HT_.out
    subst ht
    have hl := HH_.out
    have hlv := hl
    have hab : attachB l (k : Int) = false := by unfold attachB; rw [hl, decide_eq_true (show (0 : Int) ≤ (k : Int) by omega), decide_eq_true (show (k : Int) < (l.length : Int) by omega)]; rfl
    have HKL := Lib.hid hk
    have i1 : (0 : Int) ≤ (k : Int) := Int.natCast_nonneg _
    have i2 : (k : Int) < (n0 : Int) := by rw [HN.out]; omega
    have gB : decide ((k : Int) < (n0 : Int)) = true := decide_eq_true i2
    have gL : decide (0 ≤ y) = true := by rw [g3]; exact hlv
    clear g3 hk hl HH_
    have RG := Lib.hid (fun (W : World) (hW : Fr No w3 W) => HS.out.reg.no (FW.out.trans hW (fun i h => h.elim)))
    have HROW := Lib.hid (fun (W : World) (hW : Fr (Foot g v) w3 W) => show Own W B (.slice A n0 c) (atL l) by
      have h := (HS.out.row.fr FW.out (fun _ _ h => h)).fr hW (fun k hk h => HS.out.sep k hk h)
      rw [atL_length, ← HN.out] at h
      exact h)
    obtain ⟨xs5, hx5⟩ : ∃ xs5, xs5 = (atL l).set k (-1) := ⟨_, rfl⟩
    have HX5 := Lib.hid hx5
    have HST : Hid (∀ W : World, Fr No w3 W → Calls Try.prog 34 #[.agg #[.slice A n0 c, .int .i64 e], .int .i64 (k : Int), .int .i64 (-1)] W (SetPost xs5 e W)) := Lib.hid (fun W hW => by
      rw [hx5]
      exact set_book A n0 c (atL l) e k (-1) W (by rw [atL_length]; exact HN.out) (by
        have h := ((HS.out.row.fr FW.out (fun _ _ h => h)).fr hW (fun _ _ h => h)).rd
        rw [atL_length, ← HN.out] at h
        exact h) (by rw [atL_length]; exact HKL.out) (by rw [atL_length]; exact HS.out.reg.len))
    clear hx5
    obtain ⟨l5, hl5⟩ : ∃ l5, l5 = l.set k (false, 0) := ⟨_, rfl⟩
    have HL5 := Lib.hid hl5
    have HCT : Hid (∀ W : World, Reg W B g v l e → Calls Try.prog 12 #[.pointer (some ⟨g, 0, none⟩), .int .i64 (k : Int)] W (PutPost B g v l5 e (.bool true) W)) := Lib.hid (fun W hW => by
      have h := detach_any B g v l e (k : Int) W hW
      rw [show detachL l (k : Int) = l.set (k : Int).toNat (false, 0) by unfold detachL; rw [hlv]; rfl, hlv, Int.toNat_natCast, ← hl5] at h
      exact h)
    clear hl5
    clear hlv hab
    refine wp_region_held_drew (S := (fun W => W.cell? ⟨w.heap.size, 0, none⟩ = some (.slice A n0 c) ∧ W.cell? ⟨w.heap.size, 1, none⟩ = some (.int .i64 e) ∧ W.cell? ⟨w.heap.size + 1, 0, none⟩ = some (.int .i64 2) ∧ W.cell? ⟨w.heap.size + 1, 1, none⟩ = some (.int .i64 (k : Int)))) (by kernel_rfl) (HK.out _ (Fr.drew (Fr.refl _ _))) (fun hHeld => ?_)
    refine wpAnyH_take (i := 0) (v := ?_) rfl (by kernel_rfl) (by kernel_rfl) (by kernel_rfl) (fun _ _ _ h => h) (Or.inl ⟨by rfl, ?_⟩) (by assumption) ?_
    rotate_left
    · (intro w_ hSw; (try dsimp only at hSw); go_simp; (first | done | with_reducible rfl))
    (try simp only [Act.put, List.setIfInBounds_toArray, List.set_cons_zero, List.set_cons_succ, List.getElem_toArray, List.getElem_cons_succ, List.getElem_cons_zero])
    refine wpAnyH_take (i := 1) (v := ?_) rfl (by kernel_rfl) (by kernel_rfl) (by kernel_rfl) (fun _ _ _ h => h) (Or.inl ⟨by rfl, ?_⟩) (by assumption) ?_
    rotate_left
    · (intro w_ hSw; (try dsimp only at hSw); go_simp; (first | done | with_reducible rfl))
    (try simp only [Act.put, List.setIfInBounds_toArray, List.set_cons_zero, List.set_cons_succ, List.getElem_toArray, List.getElem_cons_succ, List.getElem_cons_zero])
    refine wpAnyH_take (i := 2) (v := ?_) rfl (by kernel_rfl) (by kernel_rfl) (by kernel_rfl) (fun _ _ _ h => h) (Or.inl ⟨by rfl, ?_⟩) (by assumption) ?_
    rotate_left
    · (intro w_ hSw; (try dsimp only at hSw); go_simp; (first | done | with_reducible rfl))
    (try simp only [Act.put, List.setIfInBounds_toArray, List.set_cons_zero, List.set_cons_succ, List.getElem_toArray, List.getElem_cons_succ, List.getElem_cons_zero])
    refine wpAnyH_take (i := 3) (v := ?_) rfl (by kernel_rfl) (by kernel_rfl) (by kernel_rfl) (fun _ _ _ h => h) (Or.inl ⟨by rfl, ?_⟩) (by assumption) ?_
    rotate_left
    · (intro w_ hSw; (try dsimp only at hSw); go_simp; (first | done | with_reducible rfl))
    (try simp only [Act.put, List.setIfInBounds_toArray, List.set_cons_zero, List.set_cons_succ, List.getElem_toArray, List.getElem_cons_succ, List.getElem_cons_zero])
    refine wpAnyH_take (i := 4) (v := ?_) rfl (by kernel_rfl) (by kernel_rfl) (by kernel_rfl) (fun _ _ _ h => h) (Or.inl ⟨by rfl, ?_⟩) (by assumption) ?_
    rotate_left
    · (intro w_ hSw; (try dsimp only at hSw); go_simp; (first | done | with_reducible rfl))
    (try simp only [Act.put, List.setIfInBounds_toArray, List.set_cons_zero, List.set_cons_succ, List.getElem_toArray, List.getElem_cons_succ, List.getElem_cons_zero])
    refine wpAnyH_take (i := 5) (v := ?_) rfl (by kernel_rfl) (by kernel_rfl) (by kernel_rfl) (fun _ _ _ h => h) (Or.inl ⟨by rfl, ?_⟩) (by assumption) ?_
    rotate_left
    · (intro w_ hSw; (try dsimp only at hSw); go_simp; (first | done | with_reducible rfl))
    (try simp only [Act.put, List.setIfInBounds_toArray, List.set_cons_zero, List.set_cons_succ, List.getElem_toArray, List.getElem_cons_succ, List.getElem_cons_zero])
    refine wpAnyH_take (i := 6) (v := ?_) rfl (by kernel_rfl) (by kernel_rfl) (by kernel_rfl) (fun _ _ _ h => h) (Or.inl ⟨by rfl, ?_⟩) (by assumption) ?_
    rotate_left
    · (intro w_ hSw; (try dsimp only at hSw); go_simp; (first | done | with_reducible rfl))
    (try simp only [Act.put, List.setIfInBounds_toArray, List.set_cons_zero, List.set_cons_succ, List.getElem_toArray, List.getElem_cons_succ, List.getElem_cons_zero])
    refine wpAnyH_take (i := 7) (v := ?_) rfl (by kernel_rfl) (by kernel_rfl) (by kernel_rfl) (fun _ _ _ h => h) (Or.inl ⟨by rfl, ?_⟩) (by assumption) ?_
    rotate_left
    · (intro w_ hSw; (try dsimp only at hSw); go_simp; (first | done | with_reducible rfl))
    (try simp only [Act.put, List.setIfInBounds_toArray, List.set_cons_zero, List.set_cons_succ, List.getElem_toArray, List.getElem_cons_succ, List.getElem_cons_zero])
    refine wpAnyH_take (i := 8) (v := ?_) rfl (by kernel_rfl) (by kernel_rfl) (by kernel_rfl) (fun _ _ _ h => h) (Or.inl ⟨by rfl, ?_⟩) (by assumption) ?_
    rotate_left
    · (intro w_ hSw; (try dsimp only at hSw); go_simp; (first | done | with_reducible rfl))
    (try simp only [Act.put, List.setIfInBounds_toArray, List.set_cons_zero, List.set_cons_succ, List.getElem_toArray, List.getElem_cons_succ, List.getElem_cons_zero])
    refine wpAnyH_take (i := 9) (v := ?_) rfl (by kernel_rfl) (by kernel_rfl) (by kernel_rfl) (fun _ _ _ h => h) (Or.inl ⟨by rfl, ?_⟩) (by assumption) ?_
    rotate_left
    · (intro w_ hSw; (try dsimp only at hSw); go_simp; (first | done | with_reducible rfl))
    (try simp only [Act.put, List.setIfInBounds_toArray, List.set_cons_zero, List.set_cons_succ, List.getElem_toArray, List.getElem_cons_succ, List.getElem_cons_zero])
    refine wpAnyH_take (i := 10) (v := ?_) rfl (by kernel_rfl) (by kernel_rfl) (by kernel_rfl) (fun _ _ _ h => h) (Or.inl ⟨by rfl, ?_⟩) (by assumption) ?_
    rotate_left
    · (intro w_ hSw; (try dsimp only at hSw); go_simp; (first | done | with_reducible rfl))
    (try simp only [Act.put, List.setIfInBounds_toArray, List.set_cons_zero, List.set_cons_succ, List.getElem_toArray, List.getElem_cons_succ, List.getElem_cons_zero])
    refine wpAnyH_take (i := 11) (v := ?_) rfl (by kernel_rfl) (by kernel_rfl) (by kernel_rfl) (fun _ _ _ h => h) (Or.inl ⟨by rfl, ?_⟩) (by assumption) ?_
    rotate_left
    · (intro w_ hSw; (try dsimp only at hSw); go_simp; (first | done | with_reducible rfl))
    (try simp only [Act.put, List.setIfInBounds_toArray, List.set_cons_zero, List.set_cons_succ, List.getElem_toArray, List.getElem_cons_succ, List.getElem_cons_zero])
    refine wpAnyH_take (i := 12) (v := ?_) rfl (by kernel_rfl) (by kernel_rfl) (by kernel_rfl) (fun _ _ _ h => h) (Or.inl ⟨by rfl, ?_⟩) (by assumption) ?_
    rotate_left
    · (intro w_ hSw; (try dsimp only at hSw); go_simp; (first | done | with_reducible rfl))
    (try simp only [Act.put, List.setIfInBounds_toArray, List.set_cons_zero, List.set_cons_succ, List.getElem_toArray, List.getElem_cons_succ, List.getElem_cons_zero])
    refine wpAnyH_take (i := 13) (v := ?_) rfl (by kernel_rfl) (by kernel_rfl) (by kernel_rfl) (fun _ _ _ h => h) (Or.inl ⟨by rfl, ?_⟩) (by assumption) ?_
    rotate_left
    · (intro w_ hSw; (try dsimp only at hSw); go_simp; (first | done | with_reducible rfl))
    (try simp only [Act.put, List.setIfInBounds_toArray, List.set_cons_zero, List.set_cons_succ, List.getElem_toArray, List.getElem_cons_succ, List.getElem_cons_zero])
    refine wpAnyH_ready (rs := [14]) (by kernel_rfl) (by simp) ?_
    refine AllReadyH.cons rfl (fun K hK => ?_) AllReadyH.nil
    go_simp
    go_at_call 33
    refine (HOB.out _ (by repeat (first | exact FW.out | apply Fr.drewN | apply Fr.drew))).mono ?_
    rintro x1 w5 ⟨rfl, h5⟩
    have FN := Lib.hid (Fr.then_below (Fr.drew (Fr.refl No w3)) h5)
    have FO := Lib.hid (FN.out.mono (S' := SS w g v) (fun _ h => h.elim))
    clear h5 hHeld
    refine hK.out _ _ (HK.out _ FO.out) (fun hHeld => ?_)
    clear hK K
    (try simp only [Act.put, List.setIfInBounds_toArray, List.set_cons_zero, List.set_cons_succ, List.getElem_toArray, List.getElem_cons_succ, List.getElem_cons_zero])
    refine wpAnyH_take (i := 15) (v := ?_) rfl (by kernel_rfl) (by kernel_rfl) (by kernel_rfl) (fun _ _ _ h => h) (Or.inl ⟨by rfl, ?_⟩) (by assumption) ?_
    rotate_left
    · (intro w_ hSw; (try dsimp only at hSw); go_simp; (first | done | with_reducible rfl))
    (try simp only [Act.put, List.setIfInBounds_toArray, List.set_cons_zero, List.set_cons_succ, List.getElem_toArray, List.getElem_cons_succ, List.getElem_cons_zero])
    refine wpAnyH_take (i := 16) (v := ?_) rfl (by kernel_rfl) (by kernel_rfl) (by kernel_rfl) (fun _ _ _ h => h) (Or.inl ⟨by rfl, ?_⟩) (by assumption) ?_
    rotate_left
    · (intro w_ hSw; (try dsimp only at hSw); go_simp; (first | done | with_reducible rfl))
    (try simp only [Act.put, List.setIfInBounds_toArray, List.set_cons_zero, List.set_cons_succ, List.getElem_toArray, List.getElem_cons_succ, List.getElem_cons_zero])
    refine wpAnyH_take (i := 17) (v := ?_) rfl (by kernel_rfl) (by kernel_rfl) (by kernel_rfl) (fun _ _ _ h => h) (Or.inl ⟨by rfl, ?_⟩) (by assumption) ?_
    rotate_left
    · (intro w_ hSw; (try dsimp only at hSw); go_simp; (first | done | with_reducible rfl))
    (try simp only [Act.put, List.setIfInBounds_toArray, List.set_cons_zero, List.set_cons_succ, List.getElem_toArray, List.getElem_cons_succ, List.getElem_cons_zero])
    refine wpAnyH_done (by kernel_rfl) ?_ _
    go_wp2_with fail
    go_region_held3 (fun W => W.cell? ⟨w.heap.size, 0, none⟩ = some (.slice A n0 c) ∧ W.cell? ⟨w.heap.size, 1, none⟩ = some (.int .i64 e) ∧ W.cell? ⟨w.heap.size + 1, 0, none⟩ = some (.int .i64 2) ∧ W.cell? ⟨w.heap.size + 1, 1, none⟩ = some (.int .i64 (k : Int))) (exact HK.out _ (by repeat (first | exact FU.out | exact FU8.out | exact FO.out | exact Fr.refl _ _ | apply Fr.drewN | apply Fr.drew | refine Fr.setCell ?_ (.inl (.inl rfl)) _))) (first | (go_at_call 34; refine (HST.out _ (by repeat (first | exact FUF.out | exact FN.out | apply Fr.drewN | apply Fr.drew))).mono ?_; rintro x5 w8 ⟨v8, rfl, o8, b8⟩; obtain ⟨A8, c8, rfl, _⟩ := o8.slice; have O8 := Lib.hid (o8.lower ((show Fr No w3 _ from (by repeat (first | exact FUF.out | exact FN.out | apply Fr.drewN | apply Fr.drew))).size)); have FUF : Hid (Fr No w3 w8) := Lib.hid (Fr.then_below (show Fr No w3 _ from (by repeat (first | exact FUF.out | exact FN.out | apply Fr.drewN | apply Fr.drew))) b8); have FU8 : Hid (Fr (SS w g v) w3 w8) := Lib.hid (FUF.out.mono (fun _ h => h.elim)); clear o8 b8) | (go_at_call 12; refine (HCT.out _ (RG.out _ (by repeat (first | exact FUF.out | exact FN.out | apply Fr.drewN | apply Fr.drew)))).mono ?_; rintro x6 w6 ⟨rfl, h6, hf6⟩; have S6 := Lib.hid h6; have FX : Hid (Fr (Foot g v) w3 w6) := Lib.hid (Fr.trans (S := Foot g v) (Fr.mono (show Fr No w3 _ from (by repeat (first | exact FUF.out | exact FN.out | apply Fr.drewN | apply Fr.drew))) (fun _ h => h.elim)) hf6 (fun i hi => .inl hi)); have FU := Lib.hid (FX.out.mono (S' := SS w g v) (fun _ h => .inr h)); have z6 := HRB.out w6 FX.out; have r0 : w6.cell? ⟨w.heap.size + 1 + 1, 0, none⟩ = some (.slice none 0 0) := cell_of z6 0; have r1 : w6.cell? ⟨w.heap.size + 1 + 1, 1, none⟩ = some (.int .i64 0) := cell_of z6 1; have q0 := free_of z6 0; have q1 := free_of z6 1; have Z6 := Lib.hid z6; clear z6; have F86 : Hid (Fr (Foot g v) w8 w6) := Lib.hid (Fr.trans (S := Foot g v) (Fr.mono (show Fr No w8 _ from (by repeat (first | exact Fr.refl No w8 | apply Fr.drewN | apply Fr.drew))) (fun _ h => h.elim)) hf6 (fun i hi => .inl hi)); clear h6 hf6))
    all_goals
      go_wp2_with fail
      have FE : Fr (fun j => j = w.heap.size + 1 + 1) w6 _ := ((Fr.refl (fun j => j = w.heap.size + 1 + 1) w6).setCell (p := ⟨w.heap.size + 1 + 1, 0, none⟩) (.inl rfl) (.slice A8 xs5.length c8)).setCell (p := ⟨w.heap.size + 1 + 1, 1, none⟩) (.inl rfl) (.int .i64 e)
      refine bodyPost_ret (res_ct rfl _ _ (w.heap.size + 1 + 1) 26 #[.slice A8 xs5.length c8, .int .i64 e] _ rfl (by repeat (first | exact set2_of Z6.out _ _ | apply drewN_of | apply drew_of)) Try.underlying26 rfl (by kernel_rfl)) rfl ?_
      have O9 : Own w6 B (.slice A8 xs5.length c8) (atL l5) := by
        have h : Own w6 B (.slice A8 xs5.length c8) xs5 := (O8.out.fr F86.out (fun j hj h => by have h1 := (O8.out.lt j hj).1; have h2 := (HFT.out j h).2; have h3 := FW.out.size; omega)).lower (by have h2 := (HFT.out g (.inl rfl)); have h3 := FW.out.size; omega)
        have e5 : atL l5 = xs5 := by rw [HL5.out, HX5.out, atL_set]; rfl
        rw [e5]
        exact h
      exact close HFT.out FW.out FX.out S6.out (O9) (by rw [HL5.out]; exact inv_set HS.out.inv k false 0 (fun h => by cases h)) (by omega) (own_ne_blk (O9) Z6.out (by decide)) (by repeat (first | exact FE | apply Fr.drewN | apply Fr.drew))

end Go.Proofs.Ytneogdjogdbmcaa.EpochStep
