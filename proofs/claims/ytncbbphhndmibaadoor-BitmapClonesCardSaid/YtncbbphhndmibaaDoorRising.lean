/- Proved: what scutageplain.Rising, In do and answer: numbers, each once, the least first; the conditions stand in each theorem. -/
import Derived.Test.YtncbbphhndmibaaDoorInts
namespace Go.Proofs.YtncbbphhndmibaaDoor.Rising
open Go.RowKit Go.Proofs.YtncbbphhndmibaaDoor.H Go.Proofs.YtncbbphhndmibaaDoor.Nums

/-! ### plain laws -/
def cut (out : List Int) (x : Int) : Nat := (out.takeWhile fun y => decide (y < x)).length
def ins (out : List Int) (x : Int) : List Int := if x ∈ out then out else out.take (cut out x) ++ [x] ++ out.drop (cut out x)
def risingL (l : List Int) : List Int := l.foldl ins []
theorem rising_snoc (l : List Int) (x : Int) : risingL (l ++ [x]) = ins (risingL l) x := by simp [risingL]
theorem rising_succ (l : List Int) (k : Nat) (x : Int) (h : l[k]? = some x) : risingL (l.take (k + 1)) = ins (risingL (l.take k)) x := by
  rw [List.take_add_one, h]; exact rising_snoc _ _
theorem cut_le (out : List Int) (x : Int) : cut out x ≤ out.length := by
  unfold cut
  induction out with
  | nil => simp
  | cons y r ih => rw [List.takeWhile_cons]; split <;> simp <;> omega
theorem cut_step (out : List Int) (x : Int) (j : Nat) : j ≤ out.length → (∀ i y, i < j → out[i]? = some y → y < x) → (∀ y, out[j]? = some y → ¬ y < x) → cut out x = j := by
  unfold cut
  induction out generalizing j with
  | nil => intro h _ _; simp at h; subst h; rfl
  | cons z r ih =>
    intro h h1 h2
    rw [List.takeWhile_cons]
    cases j with
    | zero => rw [if_neg (by simpa using h2 z rfl)]; rfl
    | succ j =>
      rw [if_pos (by simpa using h1 0 z (by omega) rfl), List.length_cons, ih j (by simpa using h) (fun i y hi hy => h1 (i + 1) y (by omega) hy) (fun y hy => h2 y hy)]
theorem ins_length (out : List Int) (x : Int) : (ins out x).length ≤ out.length + 1 := by
  unfold ins
  split
  · omega
  · have := cut_le out x; simp; omega
theorem ins_new (out : List Int) (x : Int) (h : x ∉ out) : (ins out x).length = out.length + 1 := by
  unfold ins
  rw [if_neg h]
  have := cut_le out x; simp; omega
theorem mem_ins (out : List Int) (x y : Int) : y ∈ ins out x ↔ y = x ∨ y ∈ out := by
  unfold ins
  split
  · rename_i h
    constructor
    · exact .inr
    · rintro (rfl | h2)
      · exact h
      · exact h2
  · have e : y ∈ out ↔ y ∈ out.take (cut out x) ∨ y ∈ out.drop (cut out x) := by rw [← List.mem_append, List.take_append_drop]
    rw [e]
    simp only [List.mem_append, List.mem_singleton]
    constructor
    · rintro ((h | h) | h)
      · exact .inr (.inl h)
      · exact .inl h
      · exact .inr (.inr h)
    · rintro (h | h | h)
      · exact .inl (.inr h)
      · exact .inl (.inl h)
      · exact .inr h
theorem mem_foldl (l : List Int) (out : List Int) (y : Int) : y ∈ l.foldl ins out ↔ y ∈ l ∨ y ∈ out := by
  induction l generalizing out with
  | nil => simp
  | cons x r ih =>
    rw [List.foldl_cons, ih, mem_ins, List.mem_cons]
    constructor
    · rintro (h | h | h)
      · exact .inl (.inr h)
      · exact .inl (.inl h)
      · exact .inr h
    · rintro ((h | h) | h)
      · exact .inr (.inl h)
      · exact .inl h
      · exact .inr (.inr h)
theorem mem_rising (l : List Int) (y : Int) : y ∈ risingL l ↔ y ∈ l := by unfold risingL; rw [mem_foldl]; simp
theorem length_foldl (l : List Int) (out : List Int) (hd : l.Nodup) (ho : ∀ x ∈ l, x ∉ out) : (l.foldl ins out).length = l.length + out.length := by
  induction l generalizing out with
  | nil => simp
  | cons x r ih =>
    rw [List.nodup_cons] at hd
    rw [List.foldl_cons, ih _ hd.2 (fun z hz h => by
      rw [mem_ins] at h
      rcases h with rfl | h
      · exact hd.1 hz
      · exact ho z (List.mem_cons_of_mem _ hz) h), ins_new _ _ (ho x (by simp)), List.length_cons]
    omega
theorem rising_length (l : List Int) (hd : l.Nodup) : (risingL l).length = l.length := by
  unfold risingL
  rw [length_foldl l [] hd (by simp)]; rfl
theorem rising_le (l : List Int) : (risingL l).length ≤ l.length := by
  have key : ∀ (l out : List Int), (l.foldl ins out).length ≤ l.length + out.length := by
    intro l
    induction l with
    | nil => intro out; simp
    | cons x r ih => intro out; have := ih (ins out x); have := ins_length out x; rw [List.foldl_cons, List.length_cons]; omega
  have := key l []
  simpa [risingL] using this

/-! ### walks -/
theorem Rd.drop {w : World} {A : Option Addr} {n c : Nat} {l : List Int} (h : Rd w (.slice A n c) n 1 (ints l)) (k : Nat) (hk : k < n) : ∃ ad, A = some ad ∧ Rd w (.slice (some (ad.add k)) (n - k) (c - k)) (l.drop k).length 1 (ints (l.drop k)) := by
  have hl := h.len
  rw [ints_length] at hl
  rcases h.at_ with ⟨_, h0⟩ | ⟨ad, c', he, hc, hx⟩
  · omega
  · injection he with he he2 he3
    subst he3
    refine ⟨ad, he, by rw [ints_length, Nat.mul_one], ints_one _, .inr ⟨ad.add k, c - k, by rw [List.length_drop]; congr 1; omega, by rw [List.length_drop]; omega, ?_⟩⟩
    intro j u hj
    rw [ints_eq, List.getElem?_map, List.getElem?_drop] at hj
    have h2 := hx (k + j) u (by rw [ints_eq, List.getElem?_map]; exact hj)
    have e : (ad.add k).add j = ad.add (k + j) := by
      unfold Addr.add
      by_cases h1 : k = 0 <;> by_cases h2 : j = 0 <;> simp_all [Nat.add_assoc]
    rw [e]; exact h2

theorem rd_nil (W : World) (A : Option Addr) (c : Nat) (h : A = none → c = 0) : Rd W (.slice A 0 c) 0 1 (ints []) := by
  refine ⟨rfl, fun v hv => by simp [ints] at hv, ?_⟩
  cases A with
  | none => obtain rfl := h rfl; exact .inl ⟨rfl, rfl⟩
  | some ad => exact .inr ⟨ad, c, rfl, Nat.zero_le _, fun j v hj => by simp [ints] at hj⟩

set_option maxHeartbeats 1600000 in
theorem in_any (A : Option Addr) (n c : Nat) (xs : List Int) (t : Int) (hn : n = xs.length) (w : World) (hr : Rd w (.slice A n c) n 1 (ints xs)) (hl : xs.length ≤ 1000000) :
    Calls Tryd.prog 23 #[.slice A n c, .int .i64 t] w (Quiet w (.bool (decide (t ∈ xs)))) := by
  subst hn
  have HR := Lib.hid hr
  clear hr
  go_enter Tryd.func23, Tryd.ntmps23
  go_wp2
  go_loopw [5] (fun i wr => ∃ k : Nat, k ≤ xs.length ∧ i = .int .i64 k ∧ wr = w ∧ Hid (∀ j, j < k → xs[j]? ≠ some t)) (fun i _ => xs.length - (intOf i).toNat)
  case atStart => exact ⟨0, Nat.zero_le _, rfl, rfl, Lib.hid (fun j h => by omega)⟩
  case round =>
    obtain ⟨k, hk, rfl, rfl, HQ⟩ := hrel
    by_cases hlt : k < xs.length
    · obtain ⟨ad, rfl, x0a⟩ := rd_at HR.out k hlt
      obtain ⟨y, hy, x0⟩ : ∃ y, xs[k]? = some y ∧ wr.cell? (ad.add k) = some (.int .i64 y) := ⟨_, List.getElem?_eq_getElem hlt, x0a⟩
      have HLT := Lib.hid hlt
      have HYY := Lib.hid hy
      have i1 : (0 : Int) ≤ (k : Int) := Int.natCast_nonneg _
      have i2 : (k : Int) < (xs.length : Int) := by omega
      clear hy x0a
      by_cases he : y = t
      · subst he
        have HM := Lib.hid (List.mem_of_getElem? HYY.out)
        go_wp2
        go_ret
        exact ⟨by rw [decide_eq_true HM.out]; rfl, 0, rfl⟩
      · have HNE := Lib.hid he
        have g1 : (y == t) = false := by simpa using he
        clear he
        go_wp2
        go_roundw
        case rel => exact ⟨k + 1, by have := HLT.out; omega, by go_num, trivial, Lib.hid (fun j hj => by
          by_cases e : j = k
          · subst e; rw [HYY.out]; intro h; injection h with h; exact HNE.out h
          · exact HQ.out j (by omega))⟩
        case measure => simp [intOf]; omega
    · obtain rfl : k = xs.length := by omega
      have HM := Lib.hid (show ¬ t ∈ xs from fun h => by
        obtain ⟨j, hj⟩ := List.getElem?_of_mem h
        exact HQ.out j (List.getElem?_eq_some_iff.1 hj).1 hj)
      go_wp2
      go_ret
      exact ⟨by rw [decide_eq_false HM.out]; rfl, 0, rfl⟩

set_option maxRecDepth 100000 in
set_option maxHeartbeats 6400000 in
theorem rising_any (A : Option Addr) (n c : Nat) (l : List Int) (hn : n = l.length) (w : World) (hr : Rd w (.slice A n c) n 1 (ints l)) (hl : l.length ≤ 100000) :
    Calls Tryd.prog 9 #[.slice A n c] w (CopyPost (risingL l) w) := by
  have HR := Lib.hid hr
  have HN := Lib.hid hn
  have hln : n ≤ 100000 := by omega
  clear hr hn hl
  go_enter Tryd.func9, Tryd.ntmps9
  go_wp2
  go_loopw [3, 4] (fun o i wr => ∃ k : Nat, k ≤ n ∧ i = .int .i64 k ∧ Hid (Own wr w.heap.size o (risingL (l.take k))) ∧ Hid (Below w.heap.size w wr)) (fun _ i _ => n - (intOf i).toNat)
  case atStart => exact ⟨0, Nat.zero_le _, rfl, Lib.hid (Own.nil _ _), Lib.hid (Below.refl _ _)⟩
  case round =>
    obtain ⟨k, hk, rfl, HO, HB⟩ := hrel
    rename_i o
    obtain ⟨Ao, co, rfl, hco⟩ := HO.out.slice
    obtain ⟨out, hout⟩ : ∃ out, out = risingL (l.take k) := ⟨_, rfl⟩
    have hol : out.length ≤ 100000 := by
      have := rising_le (l.take k)
      rw [List.length_take] at this
      rw [hout]; omega
    rw [← hout] at HO hco ⊢
    obtain ⟨m, hm⟩ : ∃ m, m = out.length := ⟨_, rfl⟩
    have HRo : Hid (Rd wr (.slice Ao m co) m 1 (ints out)) := Lib.hid (by rw [hm]; exact HO.out.rd)
    rw [← hm] at HO hco hol ⊢
    have HOUT := Lib.hid hout
    have HM := Lib.hid hm
    clear hout hm
    by_cases hlt : k < n
    · have hRl := HR.out.below HB.out
      obtain ⟨ad, rfl, x0a⟩ := rd_at hRl k (by rw [← HN.out]; exact hlt)
      obtain ⟨x, hx, x0⟩ : ∃ x, l[k]? = some x ∧ wr.cell? (ad.add k) = some (.int .i64 x) := ⟨_, List.getElem?_eq_getElem (by rw [← HN.out]; exact hlt), x0a⟩
      have HX := Lib.hid hx
      have HLT := Lib.hid hlt
      have i1 : (0 : Int) ≤ (k : Int) := Int.natCast_nonneg _
      have i2 : (k : Int) < (n : Int) := by omega
      clear hRl x0a hx hlt
      go_wp2_with fail
      with_reducible refine (in_any Ao m co out x HM.out _ HRo.out (by have := HM.out; omega)).mono ?_
      rintro e1 w1 ⟨rfl, n1, hw1⟩
      have W1 : Hid (Fr No wr w1) := Lib.hid (by rw [hw1]; exact (Fr.refl _ _).drewN _)
      clear hw1
      by_cases hmem : x ∈ out
      · rw [decide_eq_true hmem]
        have HE : Hid (risingL (l.take (k + 1)) = out) := Lib.hid (by rw [rising_succ l k x HX.out, ← HOUT.out]; unfold ins; rw [if_pos hmem])
        have HO1 : Hid (Own w1 w.heap.size (.slice Ao m co) out) := Lib.hid (HO.out.fr W1.out (fun _ _ h => h))
        have HB1 : Hid (Below w.heap.size w w1) := Lib.hid (HB.out.trans (W1.out.below HB.out.size (fun _ h => h.elim)))
        clear hmem
        go_wp2_with fail
        go_roundw
        case rel => exact ⟨k + 1, HLT.out, by go_num, by rw [HE.out]; exact HO1, HB1⟩
        case measure => have := HLT.out; simp [intOf]; omega
      · rw [decide_eq_false hmem]
        have HNM := Lib.hid hmem
        have HI : Hid (risingL (l.take (k + 1)) = ins out x) := Lib.hid (by rw [rising_succ l k x HX.out, ← HOUT.out])
        have HO1 : Hid (Own w1 w.heap.size (.slice Ao m co) out) := Lib.hid (HO.out.fr W1.out (fun _ _ h => h))
        have HB1 : Hid (Below w.heap.size w w1) := Lib.hid (HB.out.trans (W1.out.below HB.out.size (fun _ h => h.elim)))
        have HRL : Hid (∀ W, Below w.heap.size w W → W.cell? (ad.add k) = some (.int .i64 x)) := Lib.hid (fun W hW => by
          obtain ⟨ad', he, h0⟩ := rd_at (HR.out.below hW) k (by rw [← HN.out]; exact HLT.out)
          injection he with he
          subst he
          have := HX.out
          rw [List.getElem?_eq_getElem (by rw [← HN.out]; exact HLT.out)] at this
          injection this with this
          rw [h0, this])
        clear hmem x0
        obtain ⟨wo, hwo⟩ : ∃ wo, wo = w1 := ⟨_, rfl⟩
        rw [← hwo] at HO1 HB1 ⊢
        clear hwo W1 HO HRo
        clear HB
        go_wp2_with fail
        go_loopw [5] (fun a wi => ∃ j : Nat, j ≤ m ∧ a = .int .i64 j ∧ Hid (Fr No wo wi) ∧ Hid (∀ i y, i < j → out[i]? = some y → y < x)) (fun a _ => m - (intOf a).toNat)
        case atStart => exact ⟨0, Nat.zero_le _, rfl, Lib.hid (Fr.refl _ _), Lib.hid (fun i y h => by omega)⟩
        case round =>
          obtain ⟨j, hj, rfl, HF, HQ⟩ := hrel
          by_cases hgo : ∃ y, out[j]? = some y ∧ y < x
          · obtain ⟨y, hy, hyx⟩ := hgo
            have hjm : j < m := by rw [HM.out]; exact (List.getElem?_eq_some_iff.1 hy).1
            obtain ⟨d, y', rfl, y0, _, hy'⟩ := (HO1.out.fr HF.out (fun _ _ h => h)).cell j (by rw [← HM.out]; exact hjm)
            rw [hy] at hy'
            injection hy' with hy'
            subst hy'
            have x1 := HRL.out wr (HB1.out.trans (HF.out.below HB1.out.size (fun _ h => h.elim)))
            have HY := Lib.hid hy
            have HJM := Lib.hid hjm
            have HYX := Lib.hid hyx
            have i3 : (0 : Int) ≤ (j : Int) := Int.natCast_nonneg _
            have i4 : (j : Int) < (m : Int) := by omega
            have g1 : decide ((j : Int) < (m : Int)) = true := by simpa using i4
            have g2 : decide (y < x) = true := by simpa using hyx
            clear hy hjm hyx
            go_wp2
            go_quiet (fail)
            go_wp2
            go_roundw
            case rel => exact ⟨j + 1, HJM.out, by go_num, Lib.hid (HF.out.drewN _), Lib.hid (fun i z hi hz => by
              by_cases e : i = j
              · subst e; rw [HY.out] at hz; injection hz with hz; rw [← hz]; exact HYX.out
              · exact HQ.out i z (by omega) hz)⟩
            case measure => have := HJM.out; simp [intOf]; omega
          · have HC : Hid (cut out x = j) := Lib.hid (cut_step out x j (by rw [← HM.out]; exact hj) HQ.out (fun y hy h => hgo ⟨y, hy, h⟩))
            have HS : Hid (risingL (l.take (k + 1)) = out.take j ++ [x] ++ out.drop j) := Lib.hid (by rw [HI.out]; unfold ins; rw [if_neg HNM.out, HC.out])
            have HRD : Hid (∀ W, Fr No wo W → Rd W (.slice Ao j co) (out.take j).length 1 (ints (out.take j))) := Lib.hid (fun W hW => by
              have h0 := (HO1.out.fr hW (fun _ _ h => h)).rd
              rw [← HM.out] at h0
              have h := h0.take (m := j) hj
              rw [Nat.mul_one, ints_take] at h
              rw [show (out.take j).length = j by rw [List.length_take, ← HM.out]; omega]
              exact h)
            have HDR : Hid (j < m → ∃ ad2, Ao = some ad2 ∧ ∀ W, Fr No wo W → Rd W (.slice (some (ad2.add j)) (m - j) (co - j)) (out.drop j).length 1 (ints (out.drop j))) := Lib.hid (fun hjm => by
              have h0 : ∀ W, Fr No wo W → Rd W (.slice Ao m co) m 1 (ints out) := fun W hW => by
                have h0 := (HO1.out.fr hW (fun _ _ h => h)).rd
                rw [← HM.out] at h0
                exact h0
              obtain ⟨ad2, e, _⟩ := Rd.drop (h0 wo (Fr.refl _ _)) j hjm
              refine ⟨ad2, e, fun W hW => ?_⟩
              obtain ⟨ad3, e3, h3⟩ := Rd.drop (h0 W hW) j hjm
              rw [e] at e3
              injection e3 with e3
              subst e3
              exact h3)
            obtain ⟨t1, ht1⟩ : ∃ t1, t1 = out.take j := ⟨_, rfl⟩
            have hT1 : t1.length = j := by rw [ht1, List.length_take, ← HM.out]; omega
            rw [← ht1] at HS HRD
            have HT1 := Lib.hid hT1
            clear ht1 hT1
            by_cases hjm : j < m
            · obtain ⟨d, y, rfl, y0, _, hy⟩ := (HO1.out.fr HF.out (fun _ _ h => h)).cell j (by rw [← HM.out]; exact hjm)
              have x1 := HRL.out wr (HB1.out.trans (HF.out.below HB1.out.size (fun _ h => h.elim)))
              have g2 : decide (y < x) = false := by simpa using fun h => hgo ⟨y, hy, h⟩
              have i3 : (0 : Int) ≤ (j : Int) := Int.natCast_nonneg _
              have i4 : (j : Int) < (m : Int) := by omega
              have g1 : decide ((j : Int) < (m : Int)) = true := by simpa using i4
              clear hy hgo
              go_wp2
              go_quiet (fail)
              go_wp2_with (at_builtin; refine app_own (v := .slice none 0 0) (l := []) (m := t1) rfl _ _ rfl (B := wo.heap.size) rfl (Own.nil _ _) rfl (HRD.out _ (by repeat (first | exact HF.out | apply Fr.drewN | apply Fr.drew))) (by have := HT1.out; simp; omega) (by have := HF.out.size; simp; omega) ?_; intro v5 w5 hown5 hgrow5 hat5; refine Hid.out ?_)
              have O5 : Hid (Own w5 wo.heap.size v5 t1) := Lib.hid (by simpa using hown5)
              have F5 := Lib.hid (show Fr No wo w5 from Fr.grown (by repeat (first | exact HF.out | apply Fr.drewN | apply Fr.drew)) hgrow5 (fun j hj => by cases hj))
              clear hown5 hgrow5 hat5
              obtain ⟨A5, c5, rfl, _⟩ := O5.out.slice
              obtain ⟨q5, hq5⟩ : ∃ q5, q5 = t1.length := ⟨_, rfl⟩
              rw [← hq5] at O5 ⊢
              clear hq5
              have x5 := HRL.out w5 (HB1.out.trans (F5.out.below HB1.out.size (fun _ h => h.elim)))
              have z5 : (w5.alloc (.cells #[.int .i64 x] 3)).heap[w5.heap.size]? = some (.cells #[.int .i64 x] 3 (0, 0)) := heap_alloc_new _ _
              have Z5 := Lib.hid z5
              clear z5
              refine Lib.hid ?_
              go_wp2_with (at_builtin; refine app_one (l := t1) (y := x) rfl _ _ rfl rfl (O5.out.fr (Fr.alloc (Fr.refl No _) _) (fun _ _ h => h)) rfl rfl Z5.out (by decide) (by have := HT1.out; omega) (by have := F5.out.size; simp; omega) ?_; intro v6 w6 h1 h2 h3; refine Hid.out ?_)
              have O6 := Lib.hid h1
              have F6 := Lib.hid (show Fr No wo w6 from Fr.grown (F5.out.alloc _) h2 (fun j hj => .inr (O5.out.lt j hj).1))
              clear h1 h2 h3
              obtain ⟨A6, c6, rfl, _⟩ := O6.out.slice
              obtain ⟨t2, ht2⟩ : ∃ t2, t2 = t1 ++ [x] := ⟨_, rfl⟩
              have HT2 : Hid (t2.length ≤ 100001) := Lib.hid (by rw [ht2]; have := HT1.out; simp; omega)
              rw [← ht2] at O6 HS ⊢
              clear ht2
              obtain ⟨q6, hq6⟩ : ∃ q6, q6 = t2.length := ⟨_, rfl⟩
              rw [← hq6] at O6 ⊢
              clear hq6
              refine Lib.hid ?_
              obtain ⟨ad2, e2, HD3⟩ := HDR.out hjm
              injection e2 with e2
              subst e2
              simp only [Addr.add_lit, Nat.zero_add] at HD3
              have HD3 := Lib.hid HD3
              have i5 : (j : Int) ≤ (co : Int) := by omega
              go_wp2_with (at_builtin; refine app_own (l := t2) (m := out.drop j) rfl _ _ rfl rfl O6.out rfl (HD3.out _ (by repeat (first | exact F6.out | apply Fr.drewN | apply Fr.drew))) (by have := HT2.out; have := HM.out; simp; omega) (by have := F6.out.size; simp; omega) ?_; intro v7 w7 h1 h2 h3; refine Hid.out ?_)
              have O7 : Hid (Own w7 w.heap.size v7 (risingL (l.take (k + 1)))) := Lib.hid (by rw [HS.out]; exact h1.lower HB1.out.size)
              have F7 := Lib.hid (show Fr No wo w7 from Fr.grown F6.out h2 (fun j hj => .inr (O6.out.lt j hj).1))
              clear h1 h2 h3
              have B7 : Hid (Below w.heap.size w w7) := Lib.hid (HB1.out.trans (F7.out.below HB1.out.size (fun _ h => h.elim)))
              refine Lib.hid ?_
              go_wp2_with fail
              go_roundw
              case rel => exact ⟨k + 1, HLT.out, by go_num, O7, B7⟩
              case measure => have := HLT.out; simp [intOf]; omega
            · obtain rfl : j = m := by omega
              have HNIL : Hid (out.drop j = []) := Lib.hid (by rw [List.drop_eq_nil_iff, ← HM.out]; exact Nat.le_refl _)
              rw [HNIL.out] at HS
              have i3 : (0 : Int) ≤ (j : Int) := Int.natCast_nonneg _
              have HJ := Lib.hid hj
              clear hgo hjm hj HDR HNIL
              have hAo : (Ao = none ∧ j = 0 ∧ co = 0) ∨ ∃ d, Ao = some ⟨d, 0, none⟩ := by
                rcases HO1.out.2 with ⟨he, h0⟩ | ⟨d, cap, cur, he, _⟩
                · injection he with e1 e2 e3
                  exact .inl ⟨e1, e2, e3⟩
                · injection he with e1 e2 e3
                  exact .inr ⟨d, e1⟩
              rcases hAo with ⟨rfl, rfl, rfl⟩ | ⟨d, rfl⟩
              · clear i3 HJ
                go_wp2
                go_quiet (fail)
                go_wp2_with (at_builtin; refine app_own (v := .slice none 0 0) (l := []) (m := t1) rfl _ _ rfl (B := wo.heap.size) rfl (Own.nil _ _) rfl (HRD.out _ (by repeat (first | exact HF.out | apply Fr.drewN | apply Fr.drew))) (by have := HT1.out; simp; omega) (by have := HF.out.size; simp; omega) ?_; intro v5 w5 hown5 hgrow5 hat5; refine Hid.out ?_)
                have O5 : Hid (Own w5 wo.heap.size v5 t1) := Lib.hid (by simpa using hown5)
                have F5 := Lib.hid (show Fr No wo w5 from Fr.grown (by repeat (first | exact HF.out | apply Fr.drewN | apply Fr.drew)) hgrow5 (fun j hj => by cases hj))
                clear hown5 hgrow5 hat5
                obtain ⟨A5, c5, rfl, _⟩ := O5.out.slice
                obtain ⟨q5, hq5⟩ : ∃ q5, q5 = t1.length := ⟨_, rfl⟩
                rw [← hq5] at O5 ⊢
                clear hq5
                have x5 := HRL.out w5 (HB1.out.trans (F5.out.below HB1.out.size (fun _ h => h.elim)))
                have z5 : (w5.alloc (.cells #[.int .i64 x] 3)).heap[w5.heap.size]? = some (.cells #[.int .i64 x] 3 (0, 0)) := heap_alloc_new _ _
                have Z5 := Lib.hid z5
                clear z5
                refine Lib.hid ?_
                go_wp2_with (at_builtin; refine app_one (l := t1) (y := x) rfl _ _ rfl rfl (O5.out.fr (Fr.alloc (Fr.refl No _) _) (fun _ _ h => h)) rfl rfl Z5.out (by decide) (by have := HT1.out; omega) (by have := F5.out.size; simp; omega) ?_; intro v6 w6 h1 h2 h3; refine Hid.out ?_)
                have O6 := Lib.hid h1
                have F6 := Lib.hid (show Fr No wo w6 from Fr.grown (F5.out.alloc _) h2 (fun j hj => .inr (O5.out.lt j hj).1))
                clear h1 h2 h3
                obtain ⟨A6, c6, rfl, _⟩ := O6.out.slice
                obtain ⟨t2, ht2⟩ : ∃ t2, t2 = t1 ++ [x] := ⟨_, rfl⟩
                have HT2 : Hid (t2.length ≤ 100001) := Lib.hid (by rw [ht2]; have := HT1.out; simp; omega)
                rw [← ht2] at O6 HS ⊢
                clear ht2
                obtain ⟨q6, hq6⟩ : ∃ q6, q6 = t2.length := ⟨_, rfl⟩
                rw [← hq6] at O6 ⊢
                clear hq6
                refine Lib.hid ?_
                go_wp2_with (at_builtin; refine app_own (l := t2) (m := []) rfl _ _ rfl rfl O6.out rfl (rd_nil _ _ _ (by first | (intro _; rfl) | (intro h; cases h))) (by have := HT2.out; simp; omega) (by have := F6.out.size; simp; omega) ?_; intro v7 w7 h1 h2 h3; refine Hid.out ?_)
                have O7 : Hid (Own w7 w.heap.size v7 (risingL (l.take (k + 1)))) := Lib.hid (by rw [HS.out]; exact h1.lower HB1.out.size)
                have F7 := Lib.hid (show Fr No wo w7 from Fr.grown F6.out h2 (fun j hj => .inr (O6.out.lt j hj).1))
                clear h1 h2 h3
                have B7 : Hid (Below w.heap.size w w7) := Lib.hid (HB1.out.trans (F7.out.below HB1.out.size (fun _ h => h.elim)))
                refine Lib.hid ?_
                go_wp2_with fail
                go_roundw
                case rel => exact ⟨k + 1, HLT.out, by go_num, O7, B7⟩
                case measure => have := HLT.out; simp [intOf]; omega
              · by_cases hjc : j = co
                · subst hjc
                  go_wp2
                  go_quiet (fail)
                  go_wp2_with (at_builtin; refine app_own (v := .slice none 0 0) (l := []) (m := t1) rfl _ _ rfl (B := wo.heap.size) rfl (Own.nil _ _) rfl (HRD.out _ (by repeat (first | exact HF.out | apply Fr.drewN | apply Fr.drew))) (by have := HT1.out; simp; omega) (by have := HF.out.size; simp; omega) ?_; intro v5 w5 hown5 hgrow5 hat5; refine Hid.out ?_)
                  have O5 : Hid (Own w5 wo.heap.size v5 t1) := Lib.hid (by simpa using hown5)
                  have F5 := Lib.hid (show Fr No wo w5 from Fr.grown (by repeat (first | exact HF.out | apply Fr.drewN | apply Fr.drew)) hgrow5 (fun j hj => by cases hj))
                  clear hown5 hgrow5 hat5
                  obtain ⟨A5, c5, rfl, _⟩ := O5.out.slice
                  obtain ⟨q5, hq5⟩ : ∃ q5, q5 = t1.length := ⟨_, rfl⟩
                  rw [← hq5] at O5 ⊢
                  clear hq5
                  have x5 := HRL.out w5 (HB1.out.trans (F5.out.below HB1.out.size (fun _ h => h.elim)))
                  have z5 : (w5.alloc (.cells #[.int .i64 x] 3)).heap[w5.heap.size]? = some (.cells #[.int .i64 x] 3 (0, 0)) := heap_alloc_new _ _
                  have Z5 := Lib.hid z5
                  clear z5
                  refine Lib.hid ?_
                  go_wp2_with (at_builtin; refine app_one (l := t1) (y := x) rfl _ _ rfl rfl (O5.out.fr (Fr.alloc (Fr.refl No _) _) (fun _ _ h => h)) rfl rfl Z5.out (by decide) (by have := HT1.out; omega) (by have := F5.out.size; simp; omega) ?_; intro v6 w6 h1 h2 h3; refine Hid.out ?_)
                  have O6 := Lib.hid h1
                  have F6 := Lib.hid (show Fr No wo w6 from Fr.grown (F5.out.alloc _) h2 (fun j hj => .inr (O5.out.lt j hj).1))
                  clear h1 h2 h3
                  obtain ⟨A6, c6, rfl, _⟩ := O6.out.slice
                  obtain ⟨t2, ht2⟩ : ∃ t2, t2 = t1 ++ [x] := ⟨_, rfl⟩
                  have HT2 : Hid (t2.length ≤ 100001) := Lib.hid (by rw [ht2]; have := HT1.out; simp; omega)
                  rw [← ht2] at O6 HS ⊢
                  clear ht2
                  obtain ⟨q6, hq6⟩ : ∃ q6, q6 = t2.length := ⟨_, rfl⟩
                  rw [← hq6] at O6 ⊢
                  clear hq6
                  refine Lib.hid ?_
                  go_wp2_with (at_builtin; refine app_own (l := t2) (m := []) rfl _ _ rfl rfl O6.out rfl (rd_nil _ _ _ (by first | (intro _; rfl) | (intro h; cases h))) (by have := HT2.out; simp; omega) (by have := F6.out.size; simp; omega) ?_; intro v7 w7 h1 h2 h3; refine Hid.out ?_)
                  have O7 : Hid (Own w7 w.heap.size v7 (risingL (l.take (k + 1)))) := Lib.hid (by rw [HS.out]; exact h1.lower HB1.out.size)
                  have F7 := Lib.hid (show Fr No wo w7 from Fr.grown F6.out h2 (fun j hj => .inr (O6.out.lt j hj).1))
                  clear h1 h2 h3
                  have B7 : Hid (Below w.heap.size w w7) := Lib.hid (HB1.out.trans (F7.out.below HB1.out.size (fun _ h => h.elim)))
                  refine Lib.hid ?_
                  go_wp2_with fail
                  go_roundw
                  case rel => exact ⟨k + 1, HLT.out, by go_num, O7, B7⟩
                  case measure => have := HLT.out; simp [intOf]; omega
                · have i5 : j < co := by omega
                  have i6 : (j : Int) < (co : Int) := by omega
                  clear hjc
                  go_wp2
                  go_quiet (fail)
                  go_wp2_with (at_builtin; refine app_own (v := .slice none 0 0) (l := []) (m := t1) rfl _ _ rfl (B := wo.heap.size) rfl (Own.nil _ _) rfl (HRD.out _ (by repeat (first | exact HF.out | apply Fr.drewN | apply Fr.drew))) (by have := HT1.out; simp; omega) (by have := HF.out.size; simp; omega) ?_; intro v5 w5 hown5 hgrow5 hat5; refine Hid.out ?_)
                  have O5 : Hid (Own w5 wo.heap.size v5 t1) := Lib.hid (by simpa using hown5)
                  have F5 := Lib.hid (show Fr No wo w5 from Fr.grown (by repeat (first | exact HF.out | apply Fr.drewN | apply Fr.drew)) hgrow5 (fun j hj => by cases hj))
                  clear hown5 hgrow5 hat5
                  obtain ⟨A5, c5, rfl, _⟩ := O5.out.slice
                  obtain ⟨q5, hq5⟩ : ∃ q5, q5 = t1.length := ⟨_, rfl⟩
                  rw [← hq5] at O5 ⊢
                  clear hq5
                  have x5 := HRL.out w5 (HB1.out.trans (F5.out.below HB1.out.size (fun _ h => h.elim)))
                  have z5 : (w5.alloc (.cells #[.int .i64 x] 3)).heap[w5.heap.size]? = some (.cells #[.int .i64 x] 3 (0, 0)) := heap_alloc_new _ _
                  have Z5 := Lib.hid z5
                  clear z5
                  refine Lib.hid ?_
                  go_wp2_with (at_builtin; refine app_one (l := t1) (y := x) rfl _ _ rfl rfl (O5.out.fr (Fr.alloc (Fr.refl No _) _) (fun _ _ h => h)) rfl rfl Z5.out (by decide) (by have := HT1.out; omega) (by have := F5.out.size; simp; omega) ?_; intro v6 w6 h1 h2 h3; refine Hid.out ?_)
                  have O6 := Lib.hid h1
                  have F6 := Lib.hid (show Fr No wo w6 from Fr.grown (F5.out.alloc _) h2 (fun j hj => .inr (O5.out.lt j hj).1))
                  clear h1 h2 h3
                  obtain ⟨A6, c6, rfl, _⟩ := O6.out.slice
                  obtain ⟨t2, ht2⟩ : ∃ t2, t2 = t1 ++ [x] := ⟨_, rfl⟩
                  have HT2 : Hid (t2.length ≤ 100001) := Lib.hid (by rw [ht2]; have := HT1.out; simp; omega)
                  rw [← ht2] at O6 HS ⊢
                  clear ht2
                  obtain ⟨q6, hq6⟩ : ∃ q6, q6 = t2.length := ⟨_, rfl⟩
                  rw [← hq6] at O6 ⊢
                  clear hq6
                  refine Lib.hid ?_
                  go_wp2_with (at_builtin; refine app_own (l := t2) (m := []) rfl _ _ rfl rfl O6.out rfl (rd_nil _ _ _ (by first | (intro _; rfl) | (intro h; cases h))) (by have := HT2.out; simp; omega) (by have := F6.out.size; simp; omega) ?_; intro v7 w7 h1 h2 h3; refine Hid.out ?_)
                  have O7 : Hid (Own w7 w.heap.size v7 (risingL (l.take (k + 1)))) := Lib.hid (by rw [HS.out]; exact h1.lower HB1.out.size)
                  have F7 := Lib.hid (show Fr No wo w7 from Fr.grown F6.out h2 (fun j hj => .inr (O6.out.lt j hj).1))
                  clear h1 h2 h3
                  have B7 : Hid (Below w.heap.size w w7) := Lib.hid (HB1.out.trans (F7.out.below HB1.out.size (fun _ h => h.elim)))
                  refine Lib.hid ?_
                  go_wp2_with fail
                  go_roundw
                  case rel => exact ⟨k + 1, HLT.out, by go_num, O7, B7⟩
                  case measure => have := HLT.out; simp [intOf]; omega
    · obtain rfl : k = n := by omega
      have HE : Hid (out = risingL l) := Lib.hid (by rw [HOUT.out, HN.out, List.take_length])
      go_wp2_with fail
      go_ret
      exact ⟨_, rfl, by rw [← HE.out]; exact HO.out, HB.out⟩

end Go.Proofs.YtncbbphhndmibaaDoor.Rising
