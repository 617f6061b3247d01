/- Proved: what the helpers of the laws of package scutagelaw09 answer, and the law PageSpans over any arguments. -/
import Derived.Test.YtaegmlmibbppoaaPage6
namespace Go.Proofs.Ytaegmlmibbppoaa.PageLaw
open Go.RowKit Go.Proofs.Ytaegmlmibbppoaa.H Go.Proofs.Ytaegmlmibbppoaa.Nums Go.Proofs.Ytaegmlmibbppoaa.PagePure Go.Proofs.Ytaegmlmibbppoaa.Page
set_option linter.unusedVariables false

theorem no_trans {a b c : World} (h : Fr No a b) (k : Fr No b c) : Fr No a c := h.trans k (fun i h => h.elim)
/-! ### calls of a script -/
def calls (l : List (Int × Int)) : List Value := l.flatMap fun p => [Value.int .i64 p.1, .int .i64 p.2]
theorem calls_length (l : List (Int × Int)) : (calls l).length = l.length * 2 := by
  induction l with
  | nil => rfl
  | cons p l ih => simp [calls] at ih ⊢; omega
theorem calls_at (l : List (Int × Int)) (k : Nat) (h : k < l.length) : (calls l)[k * 2]? = some (.int .i64 (l[k]).1) ∧ (calls l)[k * 2 + 1]? = some (.int .i64 (l[k]).2) := by
  induction l generalizing k with
  | nil => simp at h
  | cons p l ih =>
    cases k with
    | zero => simp [calls]
    | succ k =>
      have := ih k (by simpa using h)
      rw [show (k + 1) * 2 = k * 2 + 2 by omega, show k * 2 + 2 + 1 = (k * 2 + 1) + 2 by omega]
      simpa [calls] using this
theorem calls_take (l : List (Int × Int)) (m : Nat) : (calls l).take (m * 2) = calls (l.take m) := by
  induction l generalizing m with
  | nil => simp [calls]
  | cons p l ih =>
    cases m with
    | zero => simp [calls]
    | succ m =>
      have := ih m
      rw [show (m + 1) * 2 = m * 2 + 2 by omega]
      simp [calls] at this ⊢
      exact this
theorem calls_cut {w : World} {A : Option Addr} {c m : Nat} {l : List (Int × Int)} (h : Rd w (.slice A l.length c) l.length 2 (calls l)) : Rd w (.slice A (min m l.length) c) (min m l.length) 2 (calls (l.take m)) := by
  have h2 := h.take (m := min m l.length) (Nat.min_le_right _ _)
  rw [calls_take] at h2
  have e : l.take (min m l.length) = l.take m := by rw [← List.take_eq_take_min]
  rw [e] at h2
  exact h2
theorem call_at {w : World} {A : Option Addr} {n c : Nat} {l : List (Int × Int)} (h : Rd w (.slice A n c) n 2 (calls l)) (k : Nat) (hk : k < l.length) :
    ∃ ad, A = some ad ∧ w.cell? (ad.add (k * 2)) = some (.int .i64 (l[k]).1) ∧ w.cell? ⟨(ad.add (k * 2)).block, (ad.add (k * 2)).off + 1, none⟩ = some (.int .i64 (l[k]).2) := by
  have hl := h.len
  rw [calls_length] at hl
  rcases h.at_ with ⟨_, h0⟩ | ⟨ad, c', he, _, hc⟩
  · omega
  · injection he with he _ _
    obtain ⟨a1, a2⟩ := calls_at l k hk
    exact ⟨ad, he, hc _ _ a1, by rw [← add_field ad _ 1 (by omega)]; exact hc _ _ a2⟩
def CutPost (A : Option Addr) (m n c : Nat) (w : World) (e : Ending) (w' : World) : Prop := e = .returned (.slice A (min m n) c) ∧ w' = w
set_option maxHeartbeats 1600000 in
theorem few_any (A : Option Addr) (n c : Nat) (w : World) (hc : n ≤ c) :
    Calls Try.prog 10 #[.slice A n c] w (CutPost A 50 n c w) := by
  by_cases h : 50 < n
  · have e : min 50 n = 50 := by omega
    go_enter Try.func10, Try.ntmps10
    go_wp2
    go_ret
    exact ⟨by rw [e]; rfl, rfl⟩
  · have e : min 50 n = n := by omega
    go_enter Try.func10, Try.ntmps10
    go_wp2
    go_ret
    exact ⟨by rw [e]; rfl, rfl⟩
theorem span_any (B g : Nat) (v : Value) (l : List Int) (w : World) (m : Int) (hs : T w B g v l) :
    Calls Try.prog 12 #[.pointer (some ⟨g, 0, none⟩), .int .i64 m] w (Upd B g v (spanT l m) (.tuple #[.int .i64 (spanP l m), .bool (spanOk l m)]) w) := by
  by_cases h : m < 1
  · have hE : spanOk l m = false := by unfold spanOk findI; rw [if_pos h]; rfl
    refine (span_no g m w h _).mono ?_
    rintro e w' ⟨rfl, hb⟩
    refine ⟨?_, ?_, Fr.of_below hb _⟩
    · unfold spanP; rw [hE]; rfl
    · unfold spanT; rw [hE]; exact hs.no (Fr.of_below hb No)
  · obtain ⟨k, rfl⟩ := Int.eq_ofNat_of_zero_le (show 0 ≤ m by omega)
    exact span_yes B g v l w k (by omega) hs

set_option maxRecDepth 100000 in
set_option maxHeartbeats 12800000 in
theorem alive_any (w : World) : Calls Try.prog 6 #[] w (Same w (.bool true)) := by
  go_enter Try.func6, Try.ntmps6
  go_wp2_with fail
  with_reducible refine (new_any 4 4 (by decide) w).mono ?_
  rintro x1 w1 ⟨g, v, rfl, hs1, hb1⟩
  have S1 : Hid (T w1 w.heap.size g v [0, 0, 0, 0]) := Lib.hid hs1
  have B1 := Lib.hid hb1
  clear hs1 hb1
  go_wp2_with fail
  with_reducible refine (take_any w.heap.size g v [0, 0, 0, 0] 2 _ S1.out).mono ?_
  rintro x2 w2 ⟨rfl, hs2, hf2⟩
  rw [show takeP [0, 0, 0, 0] 2 = 0 from by decide, show takeOk [0, 0, 0, 0] 2 = true from by decide]
  have S2 : Hid (T w2 w.heap.size g v [2, 0, 0, 0]) := Lib.hid hs2
  have B2 := Lib.hid (B1.out.trans (S1.out.below hf2 B1.out.size))
  clear hs2 hf2
  go_wp2_with fail
  with_reducible refine (span_any w.heap.size g v [2, 0, 0, 0] _ 2 S2.out).mono ?_
  rintro x3 w3 ⟨rfl, hs3, hf3⟩
  rw [show spanP [2, 0, 0, 0] 2 = 1 from by decide, show spanOk [2, 0, 0, 0] 2 = true from by decide]
  have S3 : Hid (T w3 w.heap.size g v [2, 5, 6, 0]) := Lib.hid hs3
  have B3 := Lib.hid (B2.out.trans (S2.out.below hf3 B2.out.size))
  clear hs3 hf3
  go_wp2_with fail
  with_reducible refine (free_any w.heap.size g v [2, 5, 6, 0] 0 _ S3.out).mono ?_
  rintro x4 w4 ⟨rfl, hs4, hf4⟩
  rw [show sizeL [2, 5, 6, 0] 0 = 1 from by decide]
  have S4 : Hid (T w4 w.heap.size g v [0, 5, 6, 0]) := Lib.hid hs4
  have B4 := Lib.hid (B3.out.trans (S3.out.below hf4 B3.out.size))
  clear hs4 hf4
  go_wp2_with fail
  with_reducible refine (span_any w.heap.size g v [0, 5, 6, 0] _ 2 S4.out).mono ?_
  rintro x5 w5 ⟨rfl, hs5, hf5⟩
  rw [show spanP [0, 5, 6, 0] 2 = 0 from by decide, show spanOk [0, 5, 6, 0] 2 = false from by decide]
  have S5 : Hid (T w5 w.heap.size g v [0, 5, 6, 0]) := Lib.hid hs5
  have B5 := Lib.hid (B4.out.trans (S4.out.below hf5 B4.out.size))
  clear hs5 hf5
  go_wp2_with fail
  with_reducible refine (kind_any w.heap.size g v [0, 5, 6, 0] 2 6 (by decide) _ S5.out).mono ?_
  rintro x6 w6 ⟨rfl, n6, hw6⟩
  have F6 := Lib.hid (drewN_fr (Fr.refl No w5) hw6)
  clear hw6
  go_wp2_with fail
  with_reducible refine (first_any w.heap.size g v [0, 5, 6, 0] 2 _ (S5.out.no F6.out)).mono ?_
  rintro x7 w7 ⟨rfl, hb7⟩
  have F7 := Lib.hid (F6.out.then_below hb7)
  rw [show firstL [0, 5, 6, 0] 2 = 1 from by decide]
  clear hb7
  go_wp2_with fail
  with_reducible refine (size_any w.heap.size g v [0, 5, 6, 0] 1 _ (S5.out.no F7.out)).mono ?_
  rintro x8 w8 ⟨rfl, hb8⟩
  have F8 := Lib.hid (F7.out.then_below hb8)
  rw [show sizeL [0, 5, 6, 0] 1 = 2 from by decide]
  clear hb8
  go_wp2_with fail
  with_reducible refine (count_any w.heap.size g v [0, 5, 6, 0] _ (S5.out.no F8.out)).mono ?_
  rintro x9 w9 ⟨rfl, hb9⟩
  have F9 := Lib.hid (F8.out.then_below hb9)
  rw [show zeros [0, 5, 6, 0] = 2 from by decide]
  clear hb9
  go_wp2_with fail
  with_reducible refine (longest_any w.heap.size g v [0, 5, 6, 0] _ (S5.out.no F9.out)).mono ?_
  rintro x10 w10 ⟨rfl, hb10⟩
  have F10 := Lib.hid (F9.out.then_below hb10)
  rw [show long [0, 5, 6, 0] = 1 from by decide]
  clear hb10
  go_wp2_with fail
  go_ret
  exact ⟨rfl, B5.out.trans (F10.out.below B5.out.size (fun _ h => h.elim))⟩

theorem span_len (l : List Int) (m : Int) : (spanT l m).length = l.length := by
  unfold spanT
  split
  · rename_i h
    unfold spanOk at h
    rcases findI_cases l m with e | ⟨p, e, h1, h2, _⟩
    · rw [e] at h; simp at h
    · rw [e]; exact spanL_length _ _ _ h2
  · rfl
theorem whole_take {l : List Int} (h : Whole l) (k : Int) : Whole (takeL l k) := by
  unfold takeL
  split
  · rename_i ho
    unfold takeOk at ho
    simp at ho
    rcases idx0_cases l 0 with hi | ⟨j, hi, hj, hj0⟩
    · rw [hi] at ho; omega
    · rw [hi, Nat.zero_add]
      exact h.take j k ho.1 hj0
  · exact h
theorem whole_span {l : List Int} (h : Whole l) (m : Int) : Whole (spanT l m) := by
  unfold spanT
  split
  · rename_i ho
    unfold spanOk at ho
    rcases findI_cases l m with e | ⟨p, e, h1, h2, h3⟩
    · rw [e] at ho; simp at ho
    · rw [e, show ((p : Int)).toNat = p by omega]
      exact h.span p m.toNat (by omega) h2 h3
  · exact h
theorem whole_free {l : List Int} (h : Whole l) (p : Int) : Whole (freeL l p) := by
  unfold freeL
  rcases sizeL_le l p with e | ⟨k, rfl, _⟩
  · rw [e, fillL_zero]; exact h
  · rw [show ((k : Int)).toNat = k by omega]; exact h.free k

set_option maxRecDepth 100000 in
set_option maxHeartbeats 25600000 in
theorem spans_any (n0 : Int) (vo : Value) (ops : List (Int × Int)) (w : World) (hr : Rd w vo ops.length 2 (calls ops)) :
    Calls Try.prog 4 #[.int .i64 n0, vo] w (Same w (.bool true)) := by
  obtain ⟨A, c, rfl, hc⟩ := hr.slice
  obtain ⟨r, hrm⟩ : ∃ r : Nat, max 0 (min n0 64) = (r : Int) := ⟨(max 0 (min n0 64)).toNat, by omega⟩
  have HRM := Lib.hid hrm
  have HC := Lib.hid hc
  have HR := Lib.hid (calls_cut (m := 50) hr)
  obtain ⟨no, hno⟩ : ∃ no, no = ops.length := ⟨_, rfl⟩
  obtain ⟨nm, hnm⟩ : ∃ nm, nm = min 50 no := ⟨_, rfl⟩
  have HL : Hid ((ops.take 50).length = nm) := Lib.hid (by rw [List.length_take, hnm, hno])
  have HNM : Hid (min 50 no = nm) := Lib.hid hnm.symm
  rw [← hno] at HR HC ⊢
  rw [← hnm] at HR
  generalize ops.take 50 = os at HR HL
  have hnm50 : nm ≤ 50 := by omega
  clear hr hrm hc hno hnm
  go_enter Try.func4, Try.ntmps4
  go_wp2_with fail
  with_reducible refine (alive_any _).mono ?_
  rintro x1 w1 ⟨rfl, hb1⟩
  have B1 := Lib.hid hb1
  clear hb1
  go_wp2_with fail
  with_reducible refine (new_any n0 r HRM.out _).mono ?_
  rintro x2 w2 ⟨g, v, rfl, hs2, hb2⟩
  have S2 := Lib.hid (hs2.lower B1.out.size)
  have B2 := Lib.hid (B1.out.trans (hb2.mono B1.out.size))
  clear hs2 hb2
  go_wp2_with fail
  with_reducible refine (few_any A no c _ HC.out).mono ?_
  rintro x3 w3 ⟨rfl, hw3⟩
  subst hw3
  rw [HNM.out]
  go_wp2_with fail
  go_loopw [6] (fun i wr => ∃ k : Nat, k ≤ nm ∧ i = .int .i64 k ∧ Hid (∃ l, T wr w.heap.size g v l ∧ Whole l) ∧ Hid (Below w.heap.size w wr)) (fun i _ => nm - (intOf i).toNat)
  case atStart => exact ⟨0, Nat.zero_le _, rfl, Lib.hid ⟨_, S2.out, Whole.new r⟩, B2⟩
  case round =>
    obtain ⟨k, hk, rfl, HT, HB⟩ := hrel
    obtain ⟨l, ht, hw⟩ := HT.out
    have TT := Lib.hid ht
    have WW := Lib.hid hw
    have i1 : (0 : Int) ≤ (k : Int) := Int.natCast_nonneg _
    clear HT ht hw
    by_cases hlt : k < nm
    · obtain ⟨ad, rfl, x0, x1⟩ := call_at (HR.out.below HB.out) k (by rw [HL.out]; exact hlt)
      generalize (os[k]'(by rw [HL.out]; exact hlt)) = op at x0 x1
      obtain ⟨kd, t⟩ := op
      dsimp only at x0 x1
      have i2 : (k : Int) < (nm : Int) := by omega
      have HLT := Lib.hid hlt
      clear hlt
      by_cases h1 : kd = 1
      · subst h1
        go_wp2_with fail
        with_reducible refine (take_any w.heap.size g v l t _ TT.out).mono ?_
        rintro x4 w4 ⟨rfl, hs4, hf4⟩
        have S4 := Lib.hid hs4
        have B4 := Lib.hid (HB.out.trans (TT.out.below hf4 HB.out.size))
        clear hs4 hf4
        go_wp2_with fail
        go_roundw
        case rel => exact ⟨k + 1, HLT.out, by go_num, Lib.hid ⟨_, S4.out, whole_take WW.out t⟩, B4⟩
        case measure => have := HLT.out; simp [intOf]; omega
      · have g1 : (kd == 1) = false := by rw [beq_eq_false_iff_ne]; exact h1
        clear h1
        by_cases h2 : kd = 2
        · subst h2
          go_wp2_with fail
          with_reducible refine (span_any w.heap.size g v l _ t TT.out).mono ?_
          rintro x4 w4 ⟨rfl, hs4, hf4⟩
          have S4 := Lib.hid hs4
          have B4 := Lib.hid (HB.out.trans (TT.out.below hf4 HB.out.size))
          clear hs4 hf4
          go_wp2_with fail
          go_roundw
          case rel => exact ⟨k + 1, HLT.out, by go_num, Lib.hid ⟨_, S4.out, whole_span WW.out t⟩, B4⟩
          case measure => have := HLT.out; simp [intOf]; omega
        · have g2 : (kd == 2) = false := by rw [beq_eq_false_iff_ne]; exact h2
          clear h2
          go_wp2_with fail
          with_reducible refine (free_any w.heap.size g v l t _ TT.out).mono ?_
          rintro x4 w4 ⟨rfl, hs4, hf4⟩
          have S4 := Lib.hid hs4
          have B4 := Lib.hid (HB.out.trans (TT.out.below hf4 HB.out.size))
          clear hs4 hf4
          go_wp2_with fail
          go_roundw
          case rel => exact ⟨k + 1, HLT.out, by go_num, Lib.hid ⟨_, S4.out, whole_free WW.out t⟩, B4⟩
          case measure => have := HLT.out; simp [intOf]; omega
    · have i2 : (nm : Int) ≤ (k : Int) := by omega
      clear hlt hk
      obtain ⟨wo, hwo⟩ : ∃ wo, wo = wr := ⟨_, rfl⟩
      rw [← hwo] at TT HB ⊢
      clear hwo
      have hl64 := TT.out.len
      go_wp2_with fail
      with_reducible refine (all_any w.heap.size g v l _ TT.out).mono ?_
      rintro x5 w5 ⟨v5, rfl, ho5, hb5⟩
      obtain ⟨A5, c5, rfl, _⟩ := ho5.slice
      have F5 := Lib.hid (Fr.of_below hb5 No)
      have O5 := Lib.hid ho5
      obtain ⟨m, hm⟩ : ∃ m, m = l.length := ⟨_, rfl⟩
      rw [← hm] at O5 hl64 ⊢
      have HM := Lib.hid hm
      clear ho5 hb5 hm
      go_wp2_with fail
      go_loopw [8] (fun i wr => ∃ p : Nat, p ≤ m ∧ i = .int .i64 p ∧ Hid (Fr No w5 wr)) (fun i _ => m - (intOf i).toNat)
      case atStart => exact ⟨0, Nat.zero_le _, rfl, Lib.hid (Fr.refl _ _)⟩
      case round =>
        obtain ⟨p, hp, rfl, HF⟩ := hrel
        have j1 : (0 : Int) ≤ (p : Int) := Int.natCast_nonneg _
        by_cases hlt : p < m
        · have hx := List.getElem?_eq_getElem (show p < l.length by rw [← HM.out]; exact hlt)
          obtain ⟨x, hxx⟩ : ∃ x, x = l[p]'(by rw [← HM.out]; exact hlt) := ⟨_, rfl⟩
          rw [← hxx] at hx
          obtain ⟨q1, q2, q3, q4, q5⟩ := WW.out.ok p x hx
          have HX := Lib.hid hx
          have j2 : (p : Int) < (m : Int) := by omega
          have HLT := Lib.hid hlt
          clear hlt hxx hx
          go_wp2_with fail
          with_reducible refine (first_any w.heap.size g v l (p : Int) _ (TT.out.no (no_trans F5.out HF.out))).mono ?_
          rintro x6 w6 ⟨rfl, hb6⟩
          have F6 := Lib.hid (HF.out.then_below hb6)
          obtain ⟨d, y, rfl, x0, _, hy⟩ := (O5.out.fr F6.out (fun _ _ h => h)).cell p (by rw [← HM.out]; exact HLT.out)
          rw [HX.out] at hy
          injection hy with hy
          subst hy
          clear hb6
          by_cases h0 : x = 0
          · subst h0
            obtain ⟨f, hf⟩ : ∃ f, f = firstL l (p : Int) := ⟨_, rfl⟩
            have hf0 : f < 0 := by rw [hf]; exact q3.2 rfl
            rw [← hf]
            clear q1 q2 q3 q4 q5 hf
            go_wp2_with fail
            go_roundw
            case rel => exact ⟨p + 1, HLT.out, by go_num, F6⟩
            case measure => have := HLT.out; simp [intOf]; omega
          · by_cases h6 : x = 6
            · subst h6
              obtain ⟨f, hf, hfp, hf5, hfs⟩ := q4 rfl
              rw [hf]
              obtain ⟨d2, y2, he2, x2, _, hy2⟩ := (O5.out.fr F6.out (fun _ _ h => h)).cell f (by rw [← HM.out]; have := HLT.out; omega)
              injection he2 with he2
              injection he2 with he2 _ _
              subst he2
              rw [hf5] at hy2
              injection hy2 with hy2
              subst hy2
              have j3 : (0 : Int) ≤ (f : Int) := Int.natCast_nonneg _
              have j4 : (f : Int) < (p : Int) := by omega
              have j5 : (f : Int) < (m : Int) := by omega
              obtain ⟨s, hs⟩ : ∃ s, s = sizeL l (f : Int) := ⟨_, rfl⟩
              rw [← hs] at hfs
              have hs64 : s ≤ 64 := by
                rcases sizeL_le l (f : Int) with e | ⟨k', _, h⟩
                · omega
                · rw [← hs] at h; have := HM.out; omega
              have HSZ := Lib.hid hs
              have j6 : (p : Int) < (f : Int) + (s : Int) := hfs
              have j7 : (0 : Int) ≤ (s : Int) := Int.natCast_nonneg _
              clear q1 q2 q3 q4 q5 hf hfp hf5 hfs hs
              go_wp2_with fail
              with_reducible refine (size_any w.heap.size g v l (f : Int) _ (TT.out.no (no_trans F5.out F6.out))).mono ?_
              rintro x7 w7 ⟨rfl, hb7⟩
              have F7 := Lib.hid (F6.out.then_below hb7)
              rw [← HSZ.out]
              clear hb7
              go_wp2_with fail
              go_roundw
              case rel => exact ⟨p + 1, HLT.out, by go_num, F7⟩
              case measure => have := HLT.out; simp [intOf]; omega
            · rw [q5 h6 h0]
              have g0 : (x == 0) = false := by rw [beq_eq_false_iff_ne]; exact h0
              have g6 : (x == 6) = false := by rw [beq_eq_false_iff_ne]; exact h6
              have g6b : (x != 6) = true := by simpa using h6
              clear q3 q4 q5 h0 h6
              go_wp2_with fail
              go_roundw
              case rel => exact ⟨p + 1, HLT.out, by go_num, F6⟩
              case measure => have := HLT.out; simp [intOf]; omega
        · have j2 : (m : Int) ≤ (p : Int) := by omega
          clear hlt hp
          go_wp2_with fail
          go_ret
          exact ⟨rfl, HB.out.trans ((no_trans F5.out HF.out).below HB.out.size (fun _ h => h.elim))⟩

end Go.Proofs.Ytaegmlmibbppoaa.PageLaw
