/- Proved: a copy of buffers is buffers of their own, with the same in them. -/
import Derived.Test.YtmgfidepjclobaaBuffer4
namespace Go.Proofs.Ytmgfidepjclobaa.Buffer
open Go.RowKit Go.Proofs.Ytmgfidepjclobaa.H Go.Proofs.Ytmgfidepjclobaa.Nums

def cpyD (D : List (List Int)) (k : Nat) : List (List Int) := D.take k ++ List.replicate (D.length - k) []
theorem cpy_succ (D : List (List Int)) (k : Nat) (x : List Int) (h : D[k]? = some x) : (cpyD D k).set k x = cpyD D (k + 1) := by
  obtain ⟨hk, rfl⟩ := List.getElem?_eq_some_iff.1 h
  have e : D.take (k + 1) = D.take k ++ [D[k]] := by rw [List.take_add_one, h]; rfl
  have hl : (D.take k).length = k := by simp; omega
  have hr : List.replicate (D.length - k) ([] : List Int) = [] :: List.replicate (D.length - (k + 1)) [] := by
    rw [← List.replicate_succ]; congr 1; omega
  unfold cpyD
  rw [e, hr, List.set_append_right _ _ (by omega), hl, Nat.sub_self, List.append_assoc]
  rfl

set_option maxRecDepth 100000 in
set_option maxHeartbeats 6400000 in
theorem clone_any' (B g : Nat) (v : Value) (L : List Ln) (hl : ∀ p ∈ dat L, p.length ≤ 1000000) (w : World) (hs : Bufs w B g v L) :
    Calls Try.prog 17 #[.pointer (some ⟨g, 0, none⟩)] w (NewPost (dat L) w) := by
  obtain ⟨A, c, rfl, _⟩ := own_slice hs.rows.own
  obtain ⟨c0, c1⟩ := hs.cells
  have HS := Lib.hid hs
  have hl8 := hs.len
  obtain ⟨m, hm⟩ : ∃ m, m = L.length := ⟨_, rfl⟩
  have HM := Lib.hid hm
  have HD : Hid ((dat L).length = m) := Lib.hid (by rw [hm]; exact dat_length L)
  have HLE := Lib.hid hl
  rw [← hm] at hl8 HS c1
  have HRM := Lib.hid (show max 0 (min (m : Int) 8) = (m : Int) by omega)
  clear hs hm hl
  go_enter Try.func17, Try.ntmps17
  go_wp2_with fail
  with_reducible refine (new_any (m : Int) m HRM.out _).mono ?_
  rintro e w1 ⟨g2, v2, L2, rfl, hd, hb, hbel⟩
  obtain ⟨A2, c2, rfl, _⟩ := own_slice hb.rows.own
  have hlen : L2.length = m := by have := congrArg List.length hd; simpa [dat] using this
  rw [hlen] at hb
  have HD2 := Lib.hid hd
  have HB2 := Lib.hid hb
  have HW1 := Lib.hid hbel
  have c1' : w1.cell? ⟨g, 1, none⟩ = some (.slice A m c) := (HS.out.no (Fr.of_below hbel No)).cells.2
  clear hd hb hbel hlen
  go_wp2_with fail
  go_loopw [26] (fun i wr => ∃ k : Nat, k ≤ m ∧ i = .int .i64 k ∧ ∃ Lk, Hid (dat Lk = cpyD (dat L) k) ∧ Hid (Bufs wr w.heap.size g2 (.slice A2 m c2) Lk) ∧ Hid (Below w.heap.size w wr)) (fun i _ => m - (intOf i).toNat)
  case atStart => exact ⟨0, Nat.zero_le _, rfl, L2, Lib.hid (by rw [HD2.out]; unfold cpyD; rw [HD.out]; simp), HB2, HW1⟩
  case round =>
    obtain ⟨k, hk, rfl, Lk, HL, HX, HW⟩ := hrel
    by_cases hlt : k < m
    · have hk1 : k < L.length := by rw [← HM.out]; exact hlt
      have hlk : Lk.length = m := by
        have := congrArg List.length HL.out
        rw [dat_length] at this
        rw [this]
        unfold cpyD
        rw [List.length_append, List.length_take, List.length_replicate, HD.out]
        omega
      have hk2 : k < Lk.length := by rw [hlk]; exact hlt
      have hsr := HS.out.no (Fr.of_below HW.out No)
      obtain ⟨d, c', he, x0, _, _, _⟩ := hsr.rows.slot k hk1
      injection he with he hmid he3
      subst he he3
      clear hmid
      obtain ⟨d2, c2', he, y0, f0, hd2, _⟩ := HX.out.rows.slot k hk2
      injection he with he hmid he3
      subst he he3
      clear hmid
      have hrow := hsr.rows.row _ (List.getElem_mem hk1)
      have hat := List.getElem?_eq_getElem hk1
      generalize L[k] = p at x0 hrow hat
      generalize (Lk[k]).1 = q0 at y0
      obtain ⟨pv, xs⟩ := p
      dsimp only at x0 hrow
      obtain ⟨A3, c3, rfl, hle⟩ := hrow.slice
      obtain ⟨n3, hn3⟩ : ∃ n3, n3 = xs.length := ⟨_, rfl⟩
      have HRX : Hid (∀ n, n = xs.length → Rd wr (.slice A3 n c3) xs.length 1 (ints xs)) := Lib.hid (fun n hn => by rw [hn]; exact hrow.rd)
      rw [← hn3] at x0
      have HN3 := Lib.hid hn3
      have HAT := Lib.hid (show (dat L)[k]? = some xs from by unfold dat; rw [List.getElem?_map, hat]; rfl)
      have hxl : xs.length ≤ 1000000 := HLE.out _ (List.mem_of_getElem? HAT.out)
      have HXL := Lib.hid hxl
      have HLT := Lib.hid hlt
      have HK2 := Lib.hid hk2
      have i1 : (0 : Int) ≤ (k : Int) := Int.natCast_nonneg _
      have i2 : (k : Int) < (m : Int) := by omega
      obtain ⟨_, e1⟩ := HX.out.cells
      clear hsr hrow hat hlt hk1 hk2 hn3 hle hxl hlk
      go_wp2_with fail
      go_region_with ((go_at_call 28; (with_reducible refine (clone_any _ xs _ ((HRX.out n3 HN3.out).below (no_below (by repeat (first | exact Fr.refl _ _ | apply Fr.drewN | apply Fr.drew)))) (by have := HXL.out; omega)).mono ?_); rintro e7 w7 ⟨v7, rfl, ho7, hb7⟩; obtain ⟨A7, c7, rfl, _⟩ := ho7.slice; have F7 := Lib.hid ((Fr.drew (Fr.refl No wr)).then_below hb7); have O7 := Lib.hid ho7; have c7' : w7.cell? ⟨g2, 1, none⟩ = some (.slice (some ⟨d2, 0, none⟩) m c2) := (HX.out.no F7.out).cells.2; have y7 : w7.cell? ⟨d2, k, none⟩ = some q0 := F7.out.cell y0 (fun h => h); have f7 : w7.frozen? ⟨d2, k, none⟩ = false := (World.frozen?_of_block (F7.out.block d2 hd2 (fun h => h))).trans f0; have n7 := World.new_ne w7 _ c7'; obtain ⟨m7, hm7⟩ : ∃ m7, m7 = xs.length := ⟨_, rfl⟩; rw [← hm7] at O7 ⊢; have HM7 := Lib.hid hm7; clear ho7 hb7 hm7))
      all_goals
        have hsz : Hid (w.heap.size ≤ wr.heap.size) := Lib.hid HW.out.size
        have HX7 := Lib.hid ((HX.out.no F7.out).put k _ xs (O7.out.lower (by have := hsz.out; simp; omega)) (fun b hb j p hj hp => by
          have h1 := (O7.out.lt b hb).1
          have h2 := ((HX.out.rows.row p (List.mem_of_getElem? hj)).lt b hp).2
          simp at h1
          omega))
        have HW7 := Lib.hid ((Fr.of_below HW.out (fun j => w.heap.size ≤ j)).trans (S' := fun j => j = d2) ((F7.out.mono (S' := fun j => j = d2) (fun _ h => h.elim)).setCell (p := ⟨d2, k, none⟩) (.inl rfl) (.slice A7 m7 c7)) (fun i hi => .inr (by rw [hi]; assumption)))
        go_wp2
        go_roundw
        case rel => exact ⟨k + 1, HLT.out, by go_num, _, Lib.hid (by rw [dat_set, HL.out]; exact cpy_succ _ k xs HAT.out), HX7, Lib.hid (HW7.out.below (Nat.le_refl _) (fun _ h => h))⟩
        case measure => have := HLT.out; simp [intOf]; omega
    · obtain rfl : k = m := by omega
      have HX2 := Lib.hid (show dat Lk = dat L from by rw [HL.out]; unfold cpyD; rw [← HD.out, List.take_length, Nat.sub_self]; simp)
      go_wp2_with fail
      go_ret
      exact ⟨_, _, Lk, rfl, HX2.out, HX.out, HW.out⟩

end Go.Proofs.Ytmgfidepjclobaa.Buffer
