/- Proved: a whole script of package scutagelaw04 answers true; and the laws MemRuns, MemClones and MemNobody over any arguments. -/
import Derived.Test.YticlhahjgiaieaaMemStep2
namespace Go.Proofs.Yticlhahjgiaieaa.MemRun
open Go.RowKit Go.Proofs.Yticlhahjgiaieaa.H Go.Proofs.Yticlhahjgiaieaa.Words Go.Proofs.Yticlhahjgiaieaa.Mem Go.Proofs.Yticlhahjgiaieaa.MemLaw Go.Proofs.Yticlhahjgiaieaa.MemStep Go.ChangeShapes Go.WideShapes

theorem Moved.trans {a b c : Value} {w w' : World} (h : Moved a b w) (h' : Moved b c w') (hz : w.heap.size ≤ w'.heap.size) : Moved a c w := by
  rcases h' with h' | h'
  · rcases h with h | h
    · exact .inl (h'.trans h)
    · exact .inr (fun k hk => h k (by rw [← h']; exact hk))
  · exact .inr (fun k hk => Nat.le_trans hz (h' k hk))

theorem agg5 (p : Cl) : (Value.agg p.cells.toArray) = .agg #[.int .i64 p.k, .int .i64 p.a, .int .i64 p.b, .int .i64 p.n, .int .i64 p.x] := rfl

set_option maxRecDepth 100000 in
set_option maxHeartbeats 12800000 in
theorem run_any (B g : Nat) (v bv : Value) (l : List Int) (Ao : Option Addr) (no co : Nat) (ops : List Cl) (hno : no = ops.length) (w0 w : World) (hs : Both w B g v bv l)
    (hops : Rd w0 (.slice Ao ops.length co) ops.length 5 (calls ops)) (hv : ∀ W, Below B w W → Below w0.heap.size w0 W) (hl : ops.length ≤ 1000) :
    Calls Try.prog 12 #[.pointer (some ⟨g, 0, none⟩), bv, .slice Ao no co] w (StepPost B g v bv w) := by
  subst hno
  obtain ⟨A, c, rfl, _⟩ := hs.row.slice
  have HS := Lib.hid hs
  have HO := Lib.hid hops
  have HV := Lib.hid hv
  have HB := Lib.hid (show B ≤ w.heap.size by have := hs.mem.foot_lt g (.inl rfl); omega)
  clear hs hops hv
  go_enter Try.func12, Try.ntmps12
  go_wp2
  go_loopw [1, 8, 9] (fun m ok i wr => ∃ k : Nat, k ≤ ops.length ∧ i = .int .i64 k ∧ ok = .bool true ∧ Hid (∃ l', Both wr B g v m l' ∧ Fr (Foot g v) w wr ∧ Moved (.slice A l.length c) m w)) (fun _ _ i _ => ops.length - (intOf i).toNat)
  case atStart => exact ⟨0, Nat.zero_le _, rfl, rfl, Lib.hid ⟨l, HS.out, Fr.refl _ _, .inl rfl⟩⟩
  case round =>
    obtain ⟨k, hk, rfl, rfl, HR⟩ := hrel
    rename_i m
    obtain ⟨l', hb, hf, hm⟩ := HR.out
    obtain ⟨A', c', rfl, _⟩ := hb.row.slice
    have H1 := Lib.hid hb
    have F1 := Lib.hid hf
    have M1 := Lib.hid hm
    clear HR hb hf hm
    by_cases hlt : k < ops.length
    · have hbel : Below B w wr := HS.out.mem.below F1.out HB.out
      obtain ⟨ad, rfl, hx⟩ := op_at (HO.out.below (HV.out _ hbel)) rfl k hlt
      have x0 : wr.cell? (ad.add (k * 5)) = some (.int .i64 (ops[k]).k) := hx 0 _ rfl
      have x1 : wr.cell? ⟨(ad.add (k * 5)).block, (ad.add (k * 5)).off + 1, none⟩ = some (.int .i64 (ops[k]).a) := by rw [← add_field _ _ _ (by decide)]; exact hx 1 _ rfl
      have x2 : wr.cell? ⟨(ad.add (k * 5)).block, (ad.add (k * 5)).off + 2, none⟩ = some (.int .i64 (ops[k]).b) := by rw [← add_field _ _ _ (by decide)]; exact hx 2 _ rfl
      have x3 : wr.cell? ⟨(ad.add (k * 5)).block, (ad.add (k * 5)).off + 3, none⟩ = some (.int .i64 (ops[k]).n) := by rw [← add_field _ _ _ (by decide)]; exact hx 3 _ rfl
      have x4 : wr.cell? ⟨(ad.add (k * 5)).block, (ad.add (k * 5)).off + 4, none⟩ = some (.int .i64 (ops[k]).x) := by rw [← add_field _ _ _ (by decide)]; exact hx 4 _ rfl
      have i1 : (0 : Int) ≤ (k : Int) := Int.natCast_nonneg _
      have i2 : (k : Int) < (ops.length : Int) := by omega
      clear hx hbel
      go_wp2_with fail
      rw [← agg5]
      refine (step_any B g v _ l' (ops[k]) _ H1.out).mono ?_
      rintro e w5 ⟨bv5, l5, rfl, hb5, hf5, hm5⟩
      obtain ⟨A5, c5, rfl, _⟩ := hb5.row.slice
      have H5 := Lib.hid hb5
      have F5 := Lib.hid hf5
      have M5 := Lib.hid hm5
      clear hb5 hf5 hm5
      have hl5 : l5.length ≤ 2048 := H5.out.mem.len
      go_wp2_with fail
      refine (all_any B g v l5 _ H5.out.mem).mono ?_
      rintro e w6 ⟨v6, rfl, ho6, hb6⟩
      obtain ⟨A6, c6, rfl, _⟩ := ho6.slice
      have O6 := Lib.hid ho6
      have F6 := Lib.hid (Fr.of_below hb6 No)
      clear ho6 hb6
      go_wp2_with fail
      refine (Words.same_any A6 A5 l5.length l5.length c6 c5 l5 rfl rfl _ O6.out.rd (H5.out.row.fr F6.out (fun _ _ h => h)).rd (by omega)).mono ?_
      rintro e w7 ⟨rfl, n7, rfl⟩
      go_wp2_with fail
      refine (len_any B g v l5 _ (H5.out.mem.no (Fr.drewN F6.out n7))).mono ?_
      rintro e w8 ⟨rfl, n8, rfl⟩
      go_wp2
      go_roundw
      case rel =>
        have hz := F1.out.size
        exact ⟨k + 1, by omega, by go_num, rfl, Lib.hid ⟨l5, H5.out.fr (by repeat (first | exact F6.out | apply Fr.drewN)), (F1.out.trans F5.out (fun i hi => .inl hi)).trans (S' := No) (by repeat (first | exact F6.out | apply Fr.drewN)) (fun i (h : No i) => h.elim), Moved.trans M1.out M5.out hz⟩⟩
      case measure => simp [intOf]; omega
    · obtain rfl : k = ops.length := by omega
      go_wp2
      go_ret2
      exact ⟨_, l', rfl, H1.out, F1.out, M1.out⟩

theorem calls_take (l : List Cl) (m : Nat) : (calls l).take (m * 5) = calls (l.take m) := Arg.flat_take Cl.cells 5 (fun _ => rfl) l m
theorem calls_cut {w : World} {A : Option Addr} {c : Nat} {l : List Cl} (h : Rd w (.slice A l.length c) l.length 5 (calls l)) (m : Nat) :
    Rd w (.slice A (l.take m).length c) (l.take m).length 5 (calls (l.take m)) := by
  have e : (l.take m).length = min m l.length := by rw [List.length_take]
  have h2 := h.take (m := min m l.length) (by omega)
  rw [calls_take, show l.take (min m l.length) = l.take m from (List.take_eq_take_min).symm] at h2
  rw [e]; exact h2

/-- a script that is cut first -/
theorem run_cut (B g : Nat) (v bv : Value) (l : List Int) (A : Option Addr) (c : Nat) (ops : List Cl) (w0 w : World) (hs : Both w B g v bv l)
    (hr : Rd w0 (.slice A ops.length c) ops.length 5 (calls ops)) (hv : ∀ W, Below B w W → Below w0.heap.size w0 W) :
    Calls Try.prog 12 #[.pointer (some ⟨g, 0, none⟩), bv, .slice A (min 50 ops.length) c] w (StepPost B g v bv w) :=
  run_any B g v bv l A (min 50 ops.length) c (ops.take 50) (by rw [List.length_take]) w0 w hs (calls_cut hr 50) hv (by rw [List.length_take]; omega)

theorem made_own (w : World) (B r : Nat) (hB : B ≤ w.heap.size) (hr : r ≤ 2048) :
    Own (w.alloc (.cells (madeCells #[Value.int .i64 0] r) 2)) B (.slice (some ⟨w.heap.size, 0, none⟩) r r) (List.replicate r 0) :=
  ⟨by rw [ints_length, Nat.mul_one], .inr ⟨w.heap.size, r, madeCells #[Value.int .i64 0] r, by simp, hB, heap_alloc_new _ _, by simp, by unfold maxLen; omega, by simp [madeCells], by rw [toList_madeCells_one, ints_eq]; simp⟩⟩

theorem below_via {w0 w7 W0 W : World} (h1 : Below w0.heap.size w0 w7) (h2 : Fr No w7 W0) (hW : Below w0.heap.size W0 W) : Below w0.heap.size w0 W :=
  (h1.trans (h2.below h1.size (fun _ h => h.elim))).trans hW

set_option maxRecDepth 100000 in
set_option maxHeartbeats 6400000 in
theorem runs_any (n : Int) (v : Value) (ops : List Cl) (w : World) (hr : Rd w v ops.length 5 (calls ops)) :
    Calls Try.prog 3 #[.int .i64 n, v] w (Same w (.bool true)) := by
  obtain ⟨A, c, rfl, hc⟩ := hr.slice
  obtain ⟨r, hrm⟩ : ∃ r : Nat, max 0 (min n 2048) = (r : Int) := ⟨(max 0 (min n 2048)).toNat, by omega⟩
  obtain ⟨i0, hi0, hz0, hz1, hz2⟩ := info_parts infoE
  have HR := Lib.hid hr
  have HM := Lib.hid hrm
  have HC := Lib.hid hc
  have hb : r ≤ 2048 := by omega
  have HBY : Hid (i0.bytes * r ≤ 281474976710656) := Lib.hid (by rw [hz2]; omega)
  clear hr hrm hc
  go_enter Try.func3, Try.ntmps3
  go_wp2_with fail
  refine (alive_any _).mono ?_
  rintro e w1 ⟨rfl, hb1⟩
  have B1 := Lib.hid hb1
  clear hb1
  have hmk := run_make_row' (P := Try.prog) 26 2 (.int .i64 0) 8 Try.underlying26 infoE rfl .i64 .i64 r (by omega) (by omega)
  go_wp2_with fail
  go_region_with ((first
    | (go_at_call 8; refine (new_any n r HM.out _).mono ?_; rintro e w3 ⟨g, v, rfl, hs3, hb3⟩; have S3 := Lib.hid hs3; have B3 := Lib.hid hb3; clear hs3 hb3)
    | (go_at_call 9; refine (near_any n 0 2048 r HM.out (by omega) _).mono ?_; rintro e wn ⟨rfl, nn, rfl⟩)))
  clear hmk
  go_wp2_with fail
  generalize hw4 : (w3.drewN nn).alloc (.cells (madeCells #[Value.int .i64 0] r) 2) = w4
  have F4 : Hid (Fr No w3 w4) := Lib.hid (by rw [← hw4]; exact (Fr.drewN (Fr.refl _ _) nn).alloc _)
  have B4 : Hid (Below w.heap.size w w4) := Lib.hid ((B1.out.drew.trans (B3.out.mono B1.out.size)).trans (F4.out.below (Nat.le_trans B1.out.size B3.out.size) (fun _ h => h.elim)))
  have O4 : Hid (Own w4 w.heap.size (.slice (some ⟨w3.heap.size, 0, none⟩) r r) (List.replicate r 0)) := Lib.hid (by rw [← hw4]; exact made_own (w3.drewN nn) w.heap.size r (Nat.le_trans B1.out.size B3.out.size) hb)
  have P4 : Hid (Both w4 w.heap.size g v (.slice (some ⟨w3.heap.size, 0, none⟩) r r) (List.replicate r 0)) := Lib.hid ⟨(S3.out.no F4.out).lower B1.out.size, O4.out, fun k hk h => by
    injection hk with hk
    have := (S3.out.foot_lt k h).2
    simp only at hk
    omega⟩
  clear hw4
  refine (all_any _ g v _ _ P4.out.mem).mono ?_
  rintro e w6 ⟨v6, rfl, ho6, hb6⟩
  obtain ⟨A6, c6, rfl, _⟩ := ho6.slice
  have O6 := Lib.hid ho6
  have F6 := Lib.hid (Fr.of_below hb6 No)
  have HL : Hid ((List.replicate r (0 : Int)).length = r) := Lib.hid (by simp)
  clear ho6 hb6
  go_wp2_with fail
  refine (Words.same_any A6 _ r r c6 r (List.replicate r 0) HL.out.symm HL.out.symm _ (by have h := O6.out.rd; rw [HL.out] at h; exact h) (by have h := (P4.out.row.fr F6.out (fun _ _ h => h)).rd; rw [HL.out] at h; exact h) (by have := HL.out; omega)).mono ?_
  rintro e w7 ⟨rfl, n7, rfl⟩
  go_wp2_with fail
  refine (few_any A ops.length c _ HC.out).mono ?_
  rintro e w8 ⟨rfl, hw8⟩
  subst hw8
  go_wp2_with fail
  have F7 : Hid (Fr No w4 (w6.drewN n7)) := Lib.hid (F6.out.drewN n7)
  refine (run_cut w.heap.size g v _ (List.replicate r 0) A c ops w _ (P4.out.fr F7.out) HR.out (fun W hW => below_via B4.out F7.out hW)).mono ?_
  rintro e w9 ⟨bv9, l9, rfl, hb9, hf9, _⟩
  have B9 := Lib.hid ((B4.out.trans (F7.out.below B4.out.size (fun _ h => h.elim))).trans ((P4.out.fr F7.out).mem.below hf9 (by have := B4.out.size; have := F7.out.size; omega)))
  clear hb9 hf9
  go_wp2
  go_ret
  exact ⟨rfl, B9.out⟩

end Go.Proofs.Yticlhahjgiaieaa.MemRun
