/- Proved: what one call of a script of package scutagelaw09 does to a table and to a list, and that they agree. -/
import Derived.Test.YtaegmlmibbppoaaPageLaw
namespace Go.Proofs.Ytaegmlmibbppoaa.PageStep
open Go.RowKit Go.Proofs.Ytaegmlmibbppoaa.H Go.Proofs.Ytaegmlmibbppoaa.Nums Go.Proofs.Ytaegmlmibbppoaa.PagePure Go.Proofs.Ytaegmlmibbppoaa.Page Go.Proofs.Ytaegmlmibbppoaa.PageLaw
set_option linter.unusedVariables false
set_option linter.unusedSimpArgs false

/-- a table, and a row apart from it, with the same in them -/
structure Both (w : World) (B g : Nat) (v : Value) (l : List Int) (vm : Value) : Prop where
  tab : T w B g v l
  mem : Nums.Own w B vm l
  sep : ∀ k, vm.ownBlock = some k → ¬ Foot g v k
theorem Both.no {w w' : World} {B g : Nat} {v : Value} {l : List Int} {vm : Value} (h : Both w B g v l vm) (hf : Fr No w w') : Both w' B g v l vm :=
  ⟨h.tab.no hf, h.mem.fr hf (fun _ _ h => h), h.sep⟩
def StepPost (B g : Nat) (v vm : Value) (w : World) (x : Ending) (w' : World) : Prop :=
  ∃ vm' l', x = .returned (.tuple #[vm', .bool true]) ∧ Both w' B g v l' vm' ∧ Fr (Foot g v) w w' ∧ ∀ k, vm'.ownBlock = some k → vm.ownBlock = some k ∨ w.heap.size ≤ k
theorem fr_no {S : Nat → Prop} {a b c : World} (h : Fr No a b) (k : Fr S b c) : Fr S a c := (h.mono (S' := S) (fun _ h => h.elim)).trans k (fun i hi => .inl hi)
theorem fr_then {S : Nat → Prop} {a b c : World} (h : Fr S a b) (k : Fr No b c) : Fr S a c := h.trans k (fun i h => h.elim)
/-- the row stays -/
theorem close0 {w w1 : World} {B g : Nat} {v : Value} {l : List Int} {vm : Value} (hb : Both w B g v l vm) (ht : T w1 B g v l) (F : Fr (Foot g v) w w1) : StepPost B g v vm w (.returned (.tuple #[vm, .bool true])) w1 :=
  ⟨vm, l, rfl, ⟨ht, hb.mem.fr F hb.sep, hb.sep⟩, F, fun k hk => .inl hk⟩
/-- a new row -/
theorem close1 {w w1 w2 w3 : World} {B g N : Nat} {v : Value} {l l' : List Int} {vm vm' : Value} (hb : Both w B g v l vm) (F1 : Fr (Foot g v) w w1) (ho : Nums.Own w1 N vm' l') (hN : w.heap.size ≤ N) (F2 : Fr (Foot g v) w1 w2) (ht : T w2 B g v l') (F3 : Fr No w2 w3) :
    StepPost B g v vm w (.returned (.tuple #[vm', .bool true])) w3 := by
  have hsep : ∀ k, vm'.ownBlock = some k → ¬ Foot g v k := fun k hk hf => by have := (hb.tab.foot_lt k hf).2; have := (ho.lt k hk).1; omega
  have hB : B ≤ N := by have := hb.tab.foot_lt g (.inl rfl); omega
  exact ⟨vm', l', rfl, ⟨ht.no F3, ((ho.lower hB).fr F2 hsep).fr F3 (fun _ _ h => h), hsep⟩, fr_then (F1.trans F2 (fun i hi => .inl hi)) F3, fun k hk => .inr (Nat.le_trans hN (ho.lt k hk).1)⟩

set_option maxRecDepth 100000 in
set_option maxHeartbeats 12800000 in
theorem take_none (B g : Nat) (v vm : Value) (l : List Int) (t : Int) (w : World) (hb : Both w B g v l vm) (ht1 : -9223372036854775808 ≤ t) (ht2 : t ≤ 9223372036854775807) (hi : idx0 l 0 = -1) :
    Calls Try.prog 22 #[.pointer (some ⟨g, 0, none⟩), vm, .agg #[.int .i64 1, .int .i64 t]] w (StepPost B g v vm w) := by
  obtain ⟨A, c, rfl, _⟩ := hb.mem.slice
  have HB := Lib.hid hb
  have h64 := hb.tab.len
  have HL := Lib.hid h64
  have hlt := (hb.tab.foot_lt g (.inl rfl)).2
  obtain ⟨n, hn⟩ : ∃ n, n = l.length := ⟨_, rfl⟩
  have HRX : Hid (∀ S W, Fr S w W → (∀ k, (Value.slice A n c).ownBlock = some k → ¬ S k) → Rd W (.slice A n c) n 1 (ints l)) := Lib.hid (fun S W hW hs => by rw [hn]; exact (hb.mem.fr hW (by rw [← hn]; exact hs)).rd)
  rw [← hn] at HB h64 ⊢
  have HN := Lib.hid hn
  have HT1 := Lib.hid ht1
  have HT2 := Lib.hid ht2
  clear hb hn
  have HF : Hid (findI l 1 = -1) := Lib.hid (by rw [find_one]; exact hi)
  have HO : Hid (takeOk l t = false ∧ takeP l t = 0 ∧ takeL l t = l) := Lib.hid (by
    have h : takeOk l t = false := by unfold takeOk; rw [hi]; simp
    unfold takeP takeL
    rw [h]; exact ⟨rfl, rfl, rfl⟩)
  clear hi
  go_enter Try.func22, Try.ntmps22
  go_upto_region 1 with (fail)
  have F0 := Lib.hid ((Fr.refl No w).alloc (.cells #[.int .i64 1, .int .i64 t] 33))
  have X0 := Lib.hid (heap_alloc_new w (.cells #[.int .i64 1, .int .i64 t] 33))
  have hz0 : (w.alloc (.cells #[.int .i64 1, .int .i64 t] 33)).heap.size = w.heap.size + 1 := by simp
  generalize w.alloc (.cells #[.int .i64 1, .int .i64 t] 33) = w0 at F0 X0 hz0 ⊢
  have B0 := Lib.hid (HB.out.no F0.out)
  have b0 := cell_of X0.out 0
  have b1 := cell_of X0.out 1
  have n0 := World.new_ne w0 _ b0
  have HNB := Lib.hid (show ¬ Foot g v w.heap.size from fun h => by have := (HB.out.tab.foot_lt _ h).2; omega)
  go_wp2_with fail
  with_reducible refine (take_any B g v l t _ B0.out.tab).mono ?_
  rintro x1 w1 ⟨rfl, hs1, hf1⟩
  rw [HO.out.1, HO.out.2.1]
  rw [HO.out.2.2] at hs1
  have S1 := Lib.hid hs1
  have F1 := Lib.hid hf1
  have G1 := Lib.hid (fr_no F0.out hf1)
  clear hs1 hf1
  have X1 := Lib.hid (F1.out.blk X0.out HNB.out)
  have b11 := cell_of X1.out 1
  clear b0 b1 n0
  go_wp2_with fail
  with_reducible refine (rfind_any A n c l HN.out 1 _ (HRX.out _ _ G1.out HB.out.sep) HL.out).mono ?_
  rintro x2 w2 ⟨rfl, n2, hw2⟩
  have F2 := Lib.hid (show Fr No w1 w2 from drewN_fr (by repeat (first | exact Fr.refl _ _ | apply Fr.drewN | apply Fr.drew)) hw2)
  have G2 := Lib.hid (fr_then G1.out F2.out)
  have b12 := cell_of (F2.out.blk X1.out (fun h => h)) 1
  clear hw2 b11
  rw [HF.out]
  go_wp2_with fail
  go_ret2
  exact close0 HB.out (S1.out.no (by repeat (first | exact F2.out | apply Fr.drewN | apply Fr.drew))) (fr_then G1.out (by repeat (first | exact F2.out | apply Fr.drewN | apply Fr.drew)))

set_option maxRecDepth 100000 in
set_option maxHeartbeats 12800000 in
theorem take_noclass (B g : Nat) (v vm : Value) (l : List Int) (j : Nat) (t : Int) (w : World) (hb : Both w B g v l vm) (ht1 : -9223372036854775808 ≤ t) (ht2 : t ≤ 9223372036854775807) (hi : idx0 l 0 = (j : Int)) (hc : clsz t = 0) :
    Calls Try.prog 22 #[.pointer (some ⟨g, 0, none⟩), vm, .agg #[.int .i64 1, .int .i64 t]] w (StepPost B g v vm w) := by
  obtain ⟨A, c, rfl, _⟩ := hb.mem.slice
  have HB := Lib.hid hb
  have h64 := hb.tab.len
  have HL := Lib.hid h64
  have hlt := (hb.tab.foot_lt g (.inl rfl)).2
  obtain ⟨n, hn⟩ : ∃ n, n = l.length := ⟨_, rfl⟩
  have HRX : Hid (∀ S W, Fr S w W → (∀ k, (Value.slice A n c).ownBlock = some k → ¬ S k) → Rd W (.slice A n c) n 1 (ints l)) := Lib.hid (fun S W hW hs => by rw [hn]; exact (hb.mem.fr hW (by rw [← hn]; exact hs)).rd)
  rw [← hn] at HB h64 ⊢
  have HN := Lib.hid hn
  have HT1 := Lib.hid ht1
  have HT2 := Lib.hid ht2
  clear hb hn
  have HF : Hid (findI l 1 = (j : Int)) := Lib.hid (by rw [find_one]; exact hi)
  have HC := Lib.hid hc
  have HO : Hid (takeOk l t = false ∧ takeP l t = 0 ∧ takeL l t = l) := Lib.hid (by
    have h : takeOk l t = false := by unfold takeOk; rw [hc]; simp
    unfold takeP takeL
    rw [h]; exact ⟨rfl, rfl, rfl⟩)
  have i1 : (0 : Int) ≤ (j : Int) := Int.natCast_nonneg _
  clear hi hc
  go_enter Try.func22, Try.ntmps22
  go_upto_region 1 with (fail)
  have F0 := Lib.hid ((Fr.refl No w).alloc (.cells #[.int .i64 1, .int .i64 t] 33))
  have X0 := Lib.hid (heap_alloc_new w (.cells #[.int .i64 1, .int .i64 t] 33))
  have hz0 : (w.alloc (.cells #[.int .i64 1, .int .i64 t] 33)).heap.size = w.heap.size + 1 := by simp
  generalize w.alloc (.cells #[.int .i64 1, .int .i64 t] 33) = w0 at F0 X0 hz0 ⊢
  have B0 := Lib.hid (HB.out.no F0.out)
  have b0 := cell_of X0.out 0
  have b1 := cell_of X0.out 1
  have n0 := World.new_ne w0 _ b0
  have HNB := Lib.hid (show ¬ Foot g v w.heap.size from fun h => by have := (HB.out.tab.foot_lt _ h).2; omega)
  go_wp2_with fail
  with_reducible refine (take_any B g v l t _ B0.out.tab).mono ?_
  rintro x1 w1 ⟨rfl, hs1, hf1⟩
  rw [HO.out.1, HO.out.2.1]
  rw [HO.out.2.2] at hs1
  have S1 := Lib.hid hs1
  have F1 := Lib.hid hf1
  have G1 := Lib.hid (fr_no F0.out hf1)
  clear hs1 hf1
  have X1 := Lib.hid (F1.out.blk X0.out HNB.out)
  have b11 := cell_of X1.out 1
  clear b0 b1 n0
  go_wp2_with fail
  with_reducible refine (rfind_any A n c l HN.out 1 _ (HRX.out _ _ G1.out HB.out.sep) HL.out).mono ?_
  rintro x2 w2 ⟨rfl, n2, hw2⟩
  have F2 := Lib.hid (show Fr No w1 w2 from drewN_fr (by repeat (first | exact Fr.refl _ _ | apply Fr.drewN | apply Fr.drew)) hw2)
  have G2 := Lib.hid (fr_then G1.out F2.out)
  have b12 := cell_of (F2.out.blk X1.out (fun h => h)) 1
  clear hw2 b11
  rw [HF.out]
  go_wp2_with fail
  with_reducible refine (rcls_any t 0 HC.out _).mono ?_
  rintro x3 w3 ⟨rfl, hb3⟩
  have F3 := Lib.hid (show Fr No w2 w3 from Fr.then_below (by repeat (first | exact Fr.refl _ _ | apply Fr.drewN | apply Fr.drew)) hb3)
  clear hb3
  go_wp2_with fail
  go_ret2
  exact close0 HB.out ((S1.out.no F2.out).no (by repeat (first | exact F3.out | apply Fr.drewN | apply Fr.drew))) (fr_then G2.out (by repeat (first | exact F3.out | apply Fr.drewN | apply Fr.drew)))

set_option maxRecDepth 100000 in
set_option maxHeartbeats 12800000 in
theorem take_yes (B g : Nat) (v vm : Value) (l : List Int) (j : Nat) (t : Int) (w : World) (hb : Both w B g v l vm) (ht1 : -9223372036854775808 ≤ t) (ht2 : t ≤ 9223372036854775807) (hi : idx0 l 0 = (j : Int)) (hj : j < l.length) (hc : clsz t ≠ 0) :
    Calls Try.prog 22 #[.pointer (some ⟨g, 0, none⟩), vm, .agg #[.int .i64 1, .int .i64 t]] w (StepPost B g v vm w) := by
  obtain ⟨A, c, rfl, _⟩ := hb.mem.slice
  have HB := Lib.hid hb
  have h64 := hb.tab.len
  have HL := Lib.hid h64
  have hlt := (hb.tab.foot_lt g (.inl rfl)).2
  obtain ⟨n, hn⟩ : ∃ n, n = l.length := ⟨_, rfl⟩
  have HRX : Hid (∀ S W, Fr S w W → (∀ k, (Value.slice A n c).ownBlock = some k → ¬ S k) → Rd W (.slice A n c) n 1 (ints l)) := Lib.hid (fun S W hW hs => by rw [hn]; exact (hb.mem.fr hW (by rw [← hn]; exact hs)).rd)
  rw [← hn] at HB h64 ⊢
  have HN := Lib.hid hn
  have HT1 := Lib.hid ht1
  have HT2 := Lib.hid ht2
  clear hb hn
  have HF : Hid (findI l 1 = (j : Int)) := Lib.hid (by rw [find_one]; exact hi)
  have HO : Hid (takeOk l t = true ∧ takeP l t = (j : Int) ∧ takeL l t = fillL l j 1 t) := Lib.hid (by
    have h : takeOk l t = true := by unfold takeOk; rw [hi, decide_eq_false hc]; simp
    unfold takeP takeL
    rw [h, if_pos rfl, if_pos rfl, hi]; exact ⟨rfl, rfl, rfl⟩)
  have i1 : (0 : Int) ≤ (j : Int) := Int.natCast_nonneg _
  obtain ⟨sz, hsz⟩ : ∃ sz, clsz t = sz := ⟨_, rfl⟩
  have HSZ := Lib.hid hsz
  have g1 : (sz == 0) = false := by rw [beq_eq_false_iff_ne, ← hsz]; exact hc
  have HJ := Lib.hid hj
  clear hi hc hsz hj
  go_enter Try.func22, Try.ntmps22
  go_upto_region 1 with (fail)
  have F0 := Lib.hid ((Fr.refl No w).alloc (.cells #[.int .i64 1, .int .i64 t] 33))
  have X0 := Lib.hid (heap_alloc_new w (.cells #[.int .i64 1, .int .i64 t] 33))
  have hz0 : (w.alloc (.cells #[.int .i64 1, .int .i64 t] 33)).heap.size = w.heap.size + 1 := by simp
  generalize w.alloc (.cells #[.int .i64 1, .int .i64 t] 33) = w0 at F0 X0 hz0 ⊢
  have B0 := Lib.hid (HB.out.no F0.out)
  have b0 := cell_of X0.out 0
  have b1 := cell_of X0.out 1
  have n0 := World.new_ne w0 _ b0
  have HNB := Lib.hid (show ¬ Foot g v w.heap.size from fun h => by have := (HB.out.tab.foot_lt _ h).2; omega)
  go_wp2_with fail
  with_reducible refine (take_any B g v l t _ B0.out.tab).mono ?_
  rintro x1 w1 ⟨rfl, hs1, hf1⟩
  rw [HO.out.1, HO.out.2.1]
  rw [HO.out.2.2] at hs1
  have S1 := Lib.hid hs1
  have F1 := Lib.hid hf1
  have G1 := Lib.hid (fr_no F0.out hf1)
  clear hs1 hf1
  have X1 := Lib.hid (F1.out.blk X0.out HNB.out)
  have b11 := cell_of X1.out 1
  clear b0 b1 n0
  go_wp2_with fail
  with_reducible refine (rfind_any A n c l HN.out 1 _ (HRX.out _ _ G1.out HB.out.sep) HL.out).mono ?_
  rintro x2 w2 ⟨rfl, n2, hw2⟩
  have F2 := Lib.hid (show Fr No w1 w2 from drewN_fr (by repeat (first | exact Fr.refl _ _ | apply Fr.drewN | apply Fr.drew)) hw2)
  have G2 := Lib.hid (fr_then G1.out F2.out)
  have b12 := cell_of (F2.out.blk X1.out (fun h => h)) 1
  clear hw2 b11
  rw [HF.out]
  go_wp2_with fail
  with_reducible refine (rcls_any t sz HSZ.out _).mono ?_
  rintro x3 w3 ⟨rfl, hb3⟩
  have F3 := Lib.hid (show Fr No w2 w3 from Fr.then_below (by repeat (first | exact Fr.refl _ _ | apply Fr.drewN | apply Fr.drew)) hb3)
  have G3 := Lib.hid (fr_then G2.out F3.out)
  have b13 := cell_of (F3.out.blk (F2.out.blk X1.out (fun h => h)) (fun h => h)) 1
  clear hb3 b12
  go_wp2_with fail
  refine (rset_any A n c l HN.out (j : Int) 1 t _ (HRX.out _ _ (fr_then G3.out (by repeat (first | exact Fr.refl _ _ | apply Fr.drewN | apply Fr.drew))) HB.out.sep) HL.out (by omega) (by have := HJ.out; have := HL.out; omega) (.inr ⟨j, rfl, HJ.out⟩)).mono ?_
  rintro x4 w4 ⟨v4, rfl, ho4, hb4⟩
  rw [show ((j : Int)).toNat = j by omega] at ho4
  have F4 := Lib.hid (show Fr No w3 w4 from Fr.then_below (by repeat (first | exact Fr.refl _ _ | apply Fr.drewN | apply Fr.drew)) hb4)
  obtain ⟨A4, c4, rfl, _⟩ := ho4.slice
  obtain ⟨q4, hq4⟩ : ∃ q4, q4 = (fillL l j 1 t).length := ⟨_, rfl⟩
  rw [← hq4] at ho4 ⊢
  have O4 := Lib.hid ho4
  clear ho4 hb4 b13 hq4
  go_wp2_with fail
  go_ret2
  exact close1 HB.out (fr_then G3.out F4.out) O4.out (by have := G3.out.size; simp; exact this) (Fr.refl _ _) ((((S1.out.no F2.out).no F3.out).no F4.out)) (by repeat (first | exact Fr.refl _ _ | apply Fr.drewN | apply Fr.drew))

set_option maxRecDepth 100000 in
set_option maxHeartbeats 12800000 in
theorem span_none (B g : Nat) (v vm : Value) (l : List Int) (t : Int) (w : World) (hb : Both w B g v l vm) (ht1 : -9223372036854775808 ≤ t) (ht2 : t ≤ 9223372036854775807) (hi : findI l t = -1) :
    Calls Try.prog 22 #[.pointer (some ⟨g, 0, none⟩), vm, .agg #[.int .i64 2, .int .i64 t]] w (StepPost B g v vm w) := by
  obtain ⟨A, c, rfl, _⟩ := hb.mem.slice
  have HB := Lib.hid hb
  have h64 := hb.tab.len
  have HL := Lib.hid h64
  have hlt := (hb.tab.foot_lt g (.inl rfl)).2
  obtain ⟨n, hn⟩ : ∃ n, n = l.length := ⟨_, rfl⟩
  have HRX : Hid (∀ S W, Fr S w W → (∀ k, (Value.slice A n c).ownBlock = some k → ¬ S k) → Rd W (.slice A n c) n 1 (ints l)) := Lib.hid (fun S W hW hs => by rw [hn]; exact (hb.mem.fr hW (by rw [← hn]; exact hs)).rd)
  rw [← hn] at HB h64 ⊢
  have HN := Lib.hid hn
  have HT1 := Lib.hid ht1
  have HT2 := Lib.hid ht2
  clear hb hn
  have HF := Lib.hid hi
  have HO : Hid (spanOk l t = false ∧ spanP l t = 0 ∧ spanT l t = l) := Lib.hid (by
    have h : spanOk l t = false := by unfold spanOk; rw [hi]; rfl
    unfold spanP spanT
    rw [h]; exact ⟨rfl, rfl, rfl⟩)
  clear hi
  go_enter Try.func22, Try.ntmps22
  go_upto_region 1 with (fail)
  have F0 := Lib.hid ((Fr.refl No w).alloc (.cells #[.int .i64 2, .int .i64 t] 33))
  have X0 := Lib.hid (heap_alloc_new w (.cells #[.int .i64 2, .int .i64 t] 33))
  have hz0 : (w.alloc (.cells #[.int .i64 2, .int .i64 t] 33)).heap.size = w.heap.size + 1 := by simp
  generalize w.alloc (.cells #[.int .i64 2, .int .i64 t] 33) = w0 at F0 X0 hz0 ⊢
  have B0 := Lib.hid (HB.out.no F0.out)
  have b0 := cell_of X0.out 0
  have b1 := cell_of X0.out 1
  have n0 := World.new_ne w0 _ b0
  have HNB := Lib.hid (show ¬ Foot g v w.heap.size from fun h => by have := (HB.out.tab.foot_lt _ h).2; omega)
  go_wp2_with fail
  with_reducible refine (span_any B g v l _ t B0.out.tab).mono ?_
  rintro x1 w1 ⟨rfl, hs1, hf1⟩
  rw [HO.out.1, HO.out.2.1]
  rw [HO.out.2.2] at hs1
  have S1 := Lib.hid hs1
  have F1 := Lib.hid hf1
  have G1 := Lib.hid (fr_no F0.out hf1)
  clear hs1 hf1
  have X1 := Lib.hid (F1.out.blk X0.out HNB.out)
  have b11 := cell_of X1.out 1
  clear b0 b1 n0
  go_wp2_with fail
  with_reducible refine (rfind_any A n c l HN.out t _ (HRX.out _ _ G1.out HB.out.sep) HL.out).mono ?_
  rintro x2 w2 ⟨rfl, n2, hw2⟩
  have F2 := Lib.hid (show Fr No w1 w2 from drewN_fr (by repeat (first | exact Fr.refl _ _ | apply Fr.drewN | apply Fr.drew)) hw2)
  have G2 := Lib.hid (fr_then G1.out F2.out)
  have b12 := cell_of (F2.out.blk X1.out (fun h => h)) 1
  clear hw2 b11
  rw [HF.out]
  go_wp2_with fail
  go_ret2
  exact close0 HB.out (S1.out.no (by repeat (first | exact F2.out | apply Fr.drewN | apply Fr.drew))) (fr_then G1.out (by repeat (first | exact F2.out | apply Fr.drewN | apply Fr.drew)))

set_option maxRecDepth 100000 in
set_option maxHeartbeats 12800000 in
theorem span_yes' (B g : Nat) (v vm : Value) (l : List Int) (j m : Nat) (t : Int) (w : World) (hb : Both w B g v l vm) (ht1 : -9223372036854775808 ≤ t) (ht2 : t ≤ 9223372036854775807) (hm : t = (m : Int)) (hm1 : 1 ≤ m) (hi : findI l t = (j : Int)) (hj : j + m ≤ l.length) :
    Calls Try.prog 22 #[.pointer (some ⟨g, 0, none⟩), vm, .agg #[.int .i64 2, .int .i64 t]] w (StepPost B g v vm w) := by
  obtain ⟨A, c, rfl, _⟩ := hb.mem.slice
  have HB := Lib.hid hb
  have h64 := hb.tab.len
  have HL := Lib.hid h64
  have hlt := (hb.tab.foot_lt g (.inl rfl)).2
  obtain ⟨n, hn⟩ : ∃ n, n = l.length := ⟨_, rfl⟩
  have HRX : Hid (∀ S W, Fr S w W → (∀ k, (Value.slice A n c).ownBlock = some k → ¬ S k) → Rd W (.slice A n c) n 1 (ints l)) := Lib.hid (fun S W hW hs => by rw [hn]; exact (hb.mem.fr hW (by rw [← hn]; exact hs)).rd)
  rw [← hn] at HB h64 ⊢
  have HN := Lib.hid hn
  have HT1 := Lib.hid ht1
  have HT2 := Lib.hid ht2
  clear hb hn
  have HF := Lib.hid hi
  have HO : Hid (spanOk l t = true ∧ spanP l t = (j : Int) ∧ spanT l t = spanL l j m) := Lib.hid (by
    have h : spanOk l t = true := by unfold spanOk; rw [hi]; simp
    unfold spanP spanT
    rw [h, if_pos rfl, if_pos rfl, hi, hm]; exact ⟨rfl, rfl, rfl⟩)
  have i1 : (0 : Int) ≤ (j : Int) := Int.natCast_nonneg _
  have HRS : Hid (∀ W, Rd W (.slice A n c) n 1 (ints l) → Calls Try.prog 33 #[.slice A n c, .int .i64 j, .int .i64 t] W (CopyPost (spanL l j m) W)) := Lib.hid (fun W h => by rw [hm]; exact rspan_any A n c l HN.out j m W h HL.out hm1 hj)
  clear hi hj hm1 hm
  go_enter Try.func22, Try.ntmps22
  go_upto_region 1 with (fail)
  have F0 := Lib.hid ((Fr.refl No w).alloc (.cells #[.int .i64 2, .int .i64 t] 33))
  have X0 := Lib.hid (heap_alloc_new w (.cells #[.int .i64 2, .int .i64 t] 33))
  have hz0 : (w.alloc (.cells #[.int .i64 2, .int .i64 t] 33)).heap.size = w.heap.size + 1 := by simp
  generalize w.alloc (.cells #[.int .i64 2, .int .i64 t] 33) = w0 at F0 X0 hz0 ⊢
  have B0 := Lib.hid (HB.out.no F0.out)
  have b0 := cell_of X0.out 0
  have b1 := cell_of X0.out 1
  have n0 := World.new_ne w0 _ b0
  have HNB := Lib.hid (show ¬ Foot g v w.heap.size from fun h => by have := (HB.out.tab.foot_lt _ h).2; omega)
  go_wp2_with fail
  with_reducible refine (span_any B g v l _ t B0.out.tab).mono ?_
  rintro x1 w1 ⟨rfl, hs1, hf1⟩
  rw [HO.out.1, HO.out.2.1]
  rw [HO.out.2.2] at hs1
  have S1 := Lib.hid hs1
  have F1 := Lib.hid hf1
  have G1 := Lib.hid (fr_no F0.out hf1)
  clear hs1 hf1
  have X1 := Lib.hid (F1.out.blk X0.out HNB.out)
  have b11 := cell_of X1.out 1
  clear b0 b1 n0
  go_wp2_with fail
  with_reducible refine (rfind_any A n c l HN.out t _ (HRX.out _ _ G1.out HB.out.sep) HL.out).mono ?_
  rintro x2 w2 ⟨rfl, n2, hw2⟩
  have F2 := Lib.hid (show Fr No w1 w2 from drewN_fr (by repeat (first | exact Fr.refl _ _ | apply Fr.drewN | apply Fr.drew)) hw2)
  have G2 := Lib.hid (fr_then G1.out F2.out)
  have b12 := cell_of (F2.out.blk X1.out (fun h => h)) 1
  clear hw2 b11
  rw [HF.out]
  go_wp2_with fail
  refine (HRS.out _ (HRX.out _ _ (fr_then G2.out (by repeat (first | exact Fr.refl _ _ | apply Fr.drewN | apply Fr.drew))) HB.out.sep)).mono ?_
  rintro x4 w4 ⟨v4, rfl, ho4, hb4⟩
  have F4 := Lib.hid (show Fr No w2 w4 from Fr.then_below (by repeat (first | exact Fr.refl _ _ | apply Fr.drewN | apply Fr.drew)) hb4)
  obtain ⟨A4, c4, rfl, _⟩ := ho4.slice
  obtain ⟨q4, hq4⟩ : ∃ q4, q4 = (spanL l j m).length := ⟨_, rfl⟩
  rw [← hq4] at ho4 ⊢
  have O4 := Lib.hid ho4
  clear ho4 hb4 b12 hq4
  go_wp2_with fail
  go_ret2
  exact close1 HB.out (fr_then G2.out F4.out) O4.out (by have := G2.out.size; simp; exact this) (Fr.refl _ _) ((S1.out.no F2.out).no F4.out) (by repeat (first | exact Fr.refl _ _ | apply Fr.drewN | apply Fr.drew))

set_option maxRecDepth 100000 in
set_option maxHeartbeats 12800000 in
theorem free_one (B g : Nat) (v vm : Value) (l : List Int) (t : Int) (w : World) (hb : Both w B g v l vm) (ht1 : -9223372036854775808 ≤ t) (ht2 : t ≤ 9223372036854775807) :
    Calls Try.prog 22 #[.pointer (some ⟨g, 0, none⟩), vm, .agg #[.int .i64 3, .int .i64 t]] w (StepPost B g v vm w) := by
  obtain ⟨A, c, rfl, _⟩ := hb.mem.slice
  have HB := Lib.hid hb
  have h64 := hb.tab.len
  have HL := Lib.hid h64
  have hlt := (hb.tab.foot_lt g (.inl rfl)).2
  obtain ⟨n, hn⟩ : ∃ n, n = l.length := ⟨_, rfl⟩
  have HRX : Hid (∀ S W, Fr S w W → (∀ k, (Value.slice A n c).ownBlock = some k → ¬ S k) → Rd W (.slice A n c) n 1 (ints l)) := Lib.hid (fun S W hW hs => by rw [hn]; exact (hb.mem.fr hW (by rw [← hn]; exact hs)).rd)
  rw [← hn] at HB h64 ⊢
  have HN := Lib.hid hn
  have HT1 := Lib.hid ht1
  have HT2 := Lib.hid ht2
  clear hb hn
  obtain ⟨s, hs⟩ : ∃ s, s = sizeL l t := ⟨_, rfl⟩
  have HS := Lib.hid hs
  have HP : Hid (s = 0 ∨ ∃ a : Nat, t = (a : Int) ∧ a + s ≤ l.length) := Lib.hid (by rw [hs]; exact sizeL_le l t)
  have HFL : Hid (freeL l t = fillL l t.toNat s 0) := Lib.hid (by rw [hs]; rfl)
  clear hs
  go_enter Try.func22, Try.ntmps22
  go_upto_region 1 with (fail)
  have F0 := Lib.hid ((Fr.refl No w).alloc (.cells #[.int .i64 3, .int .i64 t] 33))
  have X0 := Lib.hid (heap_alloc_new w (.cells #[.int .i64 3, .int .i64 t] 33))
  have hz0 : (w.alloc (.cells #[.int .i64 3, .int .i64 t] 33)).heap.size = w.heap.size + 1 := by simp
  generalize w.alloc (.cells #[.int .i64 3, .int .i64 t] 33) = w0 at F0 X0 hz0 ⊢
  have B0 := Lib.hid (HB.out.no F0.out)
  have b0 := cell_of X0.out 0
  have b1 := cell_of X0.out 1
  have n0 := World.new_ne w0 _ b0
  have HNB := Lib.hid (show ¬ Foot g v w.heap.size from fun h => by have := (HB.out.tab.foot_lt _ h).2; omega)
  go_wp2_with fail
  with_reducible refine (rsize_any A n c l HN.out t _ (HRX.out No _ (no_trans F0.out (by repeat (first | exact Fr.refl _ _ | apply Fr.drewN | apply Fr.drew))) (fun _ _ h => h)) HL.out).mono ?_
  rintro x1 w1 ⟨rfl, hb1⟩
  have F1 := Lib.hid (show Fr No w0 w1 from Fr.then_below (by repeat (first | exact Fr.refl _ _ | apply Fr.drewN | apply Fr.drew)) hb1)
  have G1 := Lib.hid (no_trans F0.out F1.out)
  have X1 := Lib.hid (F1.out.blk X0.out (fun h => h))
  have b11 := cell_of X1.out 1
  have n1 := World.new_ne w1 _ b11
  rw [← HS.out]
  clear hb1 b0 b1 n0
  go_wp2_with fail
  go_region_held3 (fun W => W.cell? ⟨w.heap.size, 1, none⟩ = some (.int .i64 t)) ((first | with_reducible assumption | (go_keep; done)))
    ((first
      | (go_at_call 32; refine (rset_any A n c l HN.out t s 0 _ (HRX.out No _ (no_trans G1.out (by repeat (first | exact Fr.refl _ _ | apply Fr.drewN | apply Fr.drew))) (fun _ _ h => h)) HL.out HT1.out HT2.out HP.out).mono ?_; rintro x4 w4 ⟨v4, rfl, ho4, hb4⟩; have F4 := Lib.hid (show Fr No w1 w4 from Fr.then_below (by repeat (first | exact Fr.refl _ _ | apply Fr.drewN | apply Fr.drew)) hb4); obtain ⟨A4, c4, rfl, _⟩ := ho4.slice; obtain ⟨q4, hq4⟩ : ∃ q4, q4 = (fillL l t.toNat s 0).length := ⟨_, rfl⟩; rw [← hq4] at ho4 ⊢; have O4 := Lib.hid ho4; have c41 : w4.cell? ⟨w.heap.size, 1, none⟩ = some (.int .i64 t) := cell_of (F4.out.blk X1.out (fun h => h)) 1; have n4 := World.new_ne w4 _ c41; clear ho4 hb4 hq4)
      | (go_at_call 13; refine (free_any B g v l t _ ((HB.out.no G1.out).no (by repeat (first | exact F4.out | apply Fr.drewN | apply Fr.drew))).tab).mono ?_; rintro x5 w5 ⟨rfl, hs5, hf5⟩; rw [HFL.out] at hs5; have S5 := Lib.hid hs5; have F5 := Lib.hid (show Fr (Foot g v) w4 w5 from fr_no (by repeat (first | exact Fr.refl _ _ | apply Fr.drewN | apply Fr.drew)) hf5); rw [← HS.out]; have c51 : w5.cell? ⟨w.heap.size, 1, none⟩ = some (.int .i64 t) := cell_of (F5.out.blk (F4.out.blk X1.out (fun h => h)) HNB.out) 1; have n5 := World.new_ne w5 _ c51; clear hs5 hf5)))
  all_goals
    go_wp2_with fail
    go_ret2
    exact close1 HB.out ((no_trans G1.out F4.out).mono (fun _ h => h.elim)) O4.out (by have := G1.out.size; simp; exact this) F5.out S5.out (by repeat (first | exact Fr.refl _ _ | apply Fr.drewN | apply Fr.drew))

set_option maxRecDepth 100000 in
set_option maxHeartbeats 12800000 in
theorem ask (B g : Nat) (v vm : Value) (l : List Int) (kd : Int) (t : Int) (w : World) (hb : Both w B g v l vm) (ht1 : -9223372036854775808 ≤ t) (ht2 : t ≤ 9223372036854775807) (h1 : kd ≠ 1) (h2 : kd ≠ 2) (h3 : kd ≠ 3) :
    Calls Try.prog 22 #[.pointer (some ⟨g, 0, none⟩), vm, .agg #[.int .i64 kd, .int .i64 t]] w (StepPost B g v vm w) := by
  obtain ⟨A, c, rfl, _⟩ := hb.mem.slice
  have HB := Lib.hid hb
  have h64 := hb.tab.len
  have HL := Lib.hid h64
  have hlt := (hb.tab.foot_lt g (.inl rfl)).2
  obtain ⟨n, hn⟩ : ∃ n, n = l.length := ⟨_, rfl⟩
  have HRX : Hid (∀ S W, Fr S w W → (∀ k, (Value.slice A n c).ownBlock = some k → ¬ S k) → Rd W (.slice A n c) n 1 (ints l)) := Lib.hid (fun S W hW hs => by rw [hn]; exact (hb.mem.fr hW (by rw [← hn]; exact hs)).rd)
  rw [← hn] at HB h64 ⊢
  have HN := Lib.hid hn
  have HT1 := Lib.hid ht1
  have HT2 := Lib.hid ht2
  clear hb hn
  have e1 : (kd == 1) = false := by simpa using h1
  have e2 : (kd == 2) = false := by simpa using h2
  have e3 : (kd == 3) = false := by simpa using h3
  obtain ⟨kv, hkv⟩ : ∃ kv, kindL l t = kv := ⟨_, rfl⟩
  have HKV := Lib.hid hkv
  clear h1 h2 h3 hkv
  go_enter Try.func22, Try.ntmps22
  go_upto_region 1 with (fail)
  have F0 := Lib.hid ((Fr.refl No w).alloc (.cells #[.int .i64 kd, .int .i64 t] 33))
  have X0 := Lib.hid (heap_alloc_new w (.cells #[.int .i64 kd, .int .i64 t] 33))
  have hz0 : (w.alloc (.cells #[.int .i64 kd, .int .i64 t] 33)).heap.size = w.heap.size + 1 := by simp
  generalize w.alloc (.cells #[.int .i64 kd, .int .i64 t] 33) = w0 at F0 X0 hz0 ⊢
  have B0 := Lib.hid (HB.out.no F0.out)
  have b0 := cell_of X0.out 0
  have b1 := cell_of X0.out 1
  have n0 := World.new_ne w0 _ b0
  have HNB := Lib.hid (show ¬ Foot g v w.heap.size from fun h => by have := (HB.out.tab.foot_lt _ h).2; omega)
  go_wp2_with fail
  go_region_held3 (fun W => W.cell? ⟨w.heap.size, 1, none⟩ = some (.int .i64 t)) ((first | with_reducible assumption | (go_keep; done)))
    ((first
      | (go_at_call 19; (with_reducible refine (kind_any B g v l t kv HKV.out _ ((HB.out.no (no_trans F0.out (by repeat (first | exact Fr.refl _ _ | apply Fr.drewN | apply Fr.drew)))).tab)).mono ?_); rintro x2 w2 ⟨rfl, n2', hw2⟩; have E2 := Lib.hid (show Fr No w0 w2 from drewN_fr (by repeat (first | exact Fr.refl _ _ | apply Fr.drewN | apply Fr.drew)) hw2); have c21 : w2.cell? ⟨w.heap.size, 1, none⟩ = some (.int .i64 t) := cell_of (E2.out.blk X0.out (fun h => h)) 1; have m2 := World.new_ne w2 _ c21; clear hw2)
      | (go_at_call 35; (with_reducible refine (rkind_any A n c l HN.out t kv HKV.out _ (HRX.out No _ (no_trans F0.out (by repeat (first | exact E2.out | apply Fr.drewN | apply Fr.drew))) (fun _ _ h => h)) HL.out).mono ?_); rintro x3 w3 ⟨rfl, n3', hw3⟩; have E3 := Lib.hid (show Fr No w0 w3 from drewN_fr (by repeat (first | exact E2.out | apply Fr.drewN | apply Fr.drew)) hw3); have c31 : w3.cell? ⟨w.heap.size, 1, none⟩ = some (.int .i64 t) := cell_of (E3.out.blk X0.out (fun h => h)) 1; have m3 := World.new_ne w3 _ c31; clear hw3)
      | (go_at_call 16; (with_reducible refine (size_any B g v l t _ ((HB.out.no (no_trans F0.out (by repeat (first | exact E3.out | apply Fr.drewN | apply Fr.drew)))).tab)).mono ?_); rintro x4 w4 ⟨rfl, hw4⟩; have E4 := Lib.hid (show Fr No w0 w4 from Fr.then_below (by repeat (first | exact E3.out | apply Fr.drewN | apply Fr.drew)) hw4); have c41 : w4.cell? ⟨w.heap.size, 1, none⟩ = some (.int .i64 t) := cell_of (E4.out.blk X0.out (fun h => h)) 1; have m4 := World.new_ne w4 _ c41; clear hw4)
      | (go_at_call 34; (with_reducible refine (rsize_any A n c l HN.out t _ (HRX.out No _ (no_trans F0.out (by repeat (first | exact E4.out | apply Fr.drewN | apply Fr.drew))) (fun _ _ h => h)) HL.out).mono ?_); rintro x5 w5 ⟨rfl, hw5⟩; have E5 := Lib.hid (show Fr No w0 w5 from Fr.then_below (by repeat (first | exact E4.out | apply Fr.drewN | apply Fr.drew)) hw5); have c51 : w5.cell? ⟨w.heap.size, 1, none⟩ = some (.int .i64 t) := cell_of (E5.out.blk X0.out (fun h => h)) 1; have m5 := World.new_ne w5 _ c51; clear hw5)
      | (go_at_call 15; (with_reducible refine (first_any B g v l t _ ((HB.out.no (no_trans F0.out (by repeat (first | exact E5.out | apply Fr.drewN | apply Fr.drew)))).tab)).mono ?_); rintro x6 w6 ⟨rfl, hw6⟩; have E6 := Lib.hid (show Fr No w0 w6 from Fr.then_below (by repeat (first | exact E5.out | apply Fr.drewN | apply Fr.drew)) hw6); have c61 : w6.cell? ⟨w.heap.size, 1, none⟩ = some (.int .i64 t) := cell_of (E6.out.blk X0.out (fun h => h)) 1; have m6 := World.new_ne w6 _ c61; clear hw6)
      | (go_at_call 36; (with_reducible refine (rfirst_any A n c l HN.out t _ (HRX.out No _ (no_trans F0.out (by repeat (first | exact E6.out | apply Fr.drewN | apply Fr.drew))) (fun _ _ h => h)) HL.out).mono ?_); rintro x7 w7 ⟨rfl, hw7⟩; have E7 := Lib.hid (show Fr No w0 w7 from Fr.then_below (by repeat (first | exact E6.out | apply Fr.drewN | apply Fr.drew)) hw7); have c71 : w7.cell? ⟨w.heap.size, 1, none⟩ = some (.int .i64 t) := cell_of (E7.out.blk X0.out (fun h => h)) 1; have m7 := World.new_ne w7 _ c71; clear hw7)))
  all_goals
    go_wp2_with fail
    go_ret2
    exact close0 HB.out ((HB.out.no (no_trans F0.out (by repeat (first | exact E7.out | apply Fr.drewN | apply Fr.drew)))).tab) ((no_trans F0.out (by repeat (first | exact E7.out | apply Fr.drewN | apply Fr.drew))).mono (fun _ h => h.elim))

theorem step_any (B g : Nat) (v vm : Value) (l : List Int) (kd t : Int) (w : World) (hb : Both w B g v l vm) (ht1 : -9223372036854775808 ≤ t) (ht2 : t ≤ 9223372036854775807) :
    Calls Try.prog 22 #[.pointer (some ⟨g, 0, none⟩), vm, .agg #[.int .i64 kd, .int .i64 t]] w (StepPost B g v vm w) := by
  by_cases h1 : kd = 1
  · subst h1
    rcases idx0_cases l 0 with hi | ⟨j, hi, hj, _⟩
    · exact take_none B g v vm l t w hb ht1 ht2 hi
    · rw [Nat.zero_add] at hi
      by_cases hc : clsz t = 0
      · exact take_noclass B g v vm l j t w hb ht1 ht2 hi hc
      · exact take_yes B g v vm l j t w hb ht1 ht2 hi hj hc
  by_cases h2 : kd = 2
  · subst h2
    rcases findI_cases l t with hi | ⟨j, hi, hm1, hj, _⟩
    · exact span_none B g v vm l t w hb ht1 ht2 hi
    · exact span_yes' B g v vm l j t.toNat t w hb ht1 ht2 (by omega) (by omega) hi hj
  by_cases h3 : kd = 3
  · subst h3; exact free_one B g v vm l t w hb ht1 ht2
  exact ask B g v vm l kd t w hb ht1 ht2 h1 h2 h3

end Go.Proofs.Ytaegmlmibbppoaa.PageStep
