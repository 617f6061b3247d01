/- Proved: the law EpochAgrees of package scutagelaw15 answers true of any script. -/
import Derived.Test.YtneogdjogdbmcaaEpochAlive
namespace Go.Proofs.Ytneogdjogdbmcaa.EpochAgrees
open Go.RowKit Go.Proofs.Ytneogdjogdbmcaa.H Go.Proofs.Ytneogdjogdbmcaa.Nums Go.Proofs.Ytneogdjogdbmcaa.Epoch Go.Proofs.Ytneogdjogdbmcaa.EpochLaw Go.Proofs.Ytneogdjogdbmcaa.EpochAlive

/-! ### in plain words -/
theorem inv_set {l : List Mb} {e : Int} (h : Inv l e) (k : Nat) (a : Bool) (b : Int) (hb : a = true → 0 ≤ b ∧ b ≤ e) : Inv (l.set k (a, b)) e := by
  refine ⟨h.e0, h.e1, fun j hj => ?_⟩
  obtain ⟨j', he, hl⟩ := live_lt _ _ hj
  have he : j = j' := by omega
  subst he
  have hl' := hl
  rw [List.length_set] at hl
  rw [ofI_in _ j hl' hj]
  rw [liveB_in _ j hl'] at hj
  by_cases hk : k = j
  · subst hk
    rw [List.getElem_set_self] at hj ⊢
    exact hb hj
  · rw [List.getElem_set_ne hk] at hj ⊢
    have hj2 : liveB l (j : Int) = true := by rw [liveB_in l j hl]; exact hj
    have := h.at0 j hj2
    rw [ofI_in l j hl hj2] at this
    exact this
theorem inv_attach {l : List Mb} {e : Int} (h : Inv l e) (t : Int) : Inv (attachL l e t) e := by
  unfold attachL
  split
  · exact inv_set h _ _ _ (fun _ => ⟨h.e0, Int.le_refl _⟩)
  · exact h
theorem inv_detach {l : List Mb} {e : Int} (h : Inv l e) (t : Int) : Inv (detachL l t) e := by
  unfold detachL
  split
  · exact inv_set h _ _ _ (fun h => by cases h)
  · exact h
theorem inv_confirm {l : List Mb} {e : Int} (h : Inv l e) (t : Int) : Inv (confirmL l e t) e := by
  unfold confirmL
  split
  · exact inv_set h _ _ _ (fun _ => ⟨h.e0, Int.le_refl _⟩)
  · exact h
theorem inv_raise {l : List Mb} {e : Int} (h : Inv l e) (h1 : e < 1000000) : Inv l (wrap64 (e + 1)) ∧ wrap64 (e + 1) = e + 1 := by
  have h0 := h.e0
  have hw : wrap64 (e + 1) = e + 1 := by unfold wrap64; omega
  rw [hw]
  exact ⟨⟨by omega, by omega, fun k hk => by have := h.at0 k hk; omega⟩, rfl⟩
theorem mem_pick (p : Mb → Bool) (l : List Mb) (t : Int) : t ∈ pick p l l.length ↔ ∃ j, ∃ h : j < l.length, t = ((j : Nat) : Int) ∧ (l[j]).1 = true ∧ p l[j] = true := by
  unfold pick
  rw [List.mem_map]
  constructor
  · rintro ⟨j, hj, rfl⟩
    rw [List.mem_filter, List.mem_range] at hj
    obtain ⟨h1, h2⟩ := hj
    rw [List.getElem?_eq_getElem h1] at h2
    simp at h2
    exact ⟨j, h1, rfl, h2.1, h2.2⟩
  · rintro ⟨j, h, rfl, h1, h2⟩
    refine ⟨j, ?_, rfl⟩
    rw [List.mem_filter, List.mem_range, List.getElem?_eq_getElem h]
    exact ⟨h, by simp [h1, h2]⟩
theorem mem_all (l : List Mb) (t : Int) : t ∈ pick allP l l.length ↔ liveB l t = true := by
  rw [mem_pick]
  constructor
  · rintro ⟨j, h, rfl, h1, _⟩
    rw [liveB_in l j h]; exact h1
  · intro h
    obtain ⟨k, rfl, hk⟩ := live_lt l t h
    rw [liveB_in l k hk] at h
    exact ⟨k, hk, rfl, h, rfl⟩
theorem mem_beh (e : Int) (l : List Mb) (t : Int) : t ∈ pick (behP e) l l.length ↔ liveB l t = true ∧ ofI l t < e := by
  rw [mem_pick]
  constructor
  · rintro ⟨j, h, rfl, h1, h2⟩
    have hl : liveB l (j : Int) = true := by rw [liveB_in l j h]; exact h1
    refine ⟨hl, ?_⟩
    rw [ofI_in l j h hl]
    simpa [behP] using h2
  · rintro ⟨h, h2⟩
    obtain ⟨k, rfl, hk⟩ := live_lt l t h
    rw [ofI_in l k hk h] at h2
    rw [liveB_in l k hk] at h
    exact ⟨k, hk, rfl, h, by simpa [behP] using h2⟩
theorem least_spec (l : List Mb) (n : Int) (xs : List Int) : leastI l n xs ≤ n ∧ (∀ t ∈ xs, leastI l n xs ≤ ofI l t) ∧ (leastI l n xs = n ∨ ∃ t ∈ xs, leastI l n xs = ofI l t) := by
  unfold leastI
  induction xs generalizing n with
  | nil => exact ⟨Int.le_refl _, fun t h => (by cases h), .inl rfl⟩
  | cons x xs ih =>
    obtain ⟨h1, h2, h3⟩ := ih (min n (ofI l x))
    rw [List.foldl_cons]
    refine ⟨by omega, fun t ht => ?_, ?_⟩
    · rcases List.mem_cons.1 ht with rfl | ht
      · omega
      · exact h2 t ht
    · rcases h3 with h3 | ⟨t, ht, h3⟩
      · by_cases hc : ofI l x < n
        · exact .inr ⟨x, by simp, by omega⟩
        · exact .inl (by omega)
      · exact .inr ⟨t, by simp [ht], h3⟩
theorem agreed_iff (l : List Mb) (e : Int) : (((pick (behP e) l l.length).length : Int) == 0) = (leastI l e (pick allP l l.length) == e) := by
  obtain ⟨h1, h2, h3⟩ := least_spec l e (pick allP l l.length)
  rw [Bool.eq_iff_iff, beq_iff_eq, beq_iff_eq]
  constructor
  · intro h
    have h0 : pick (behP e) l l.length = [] := List.eq_nil_of_length_eq_zero (by omega)
    rcases h3 with h3 | ⟨t, ht, h3⟩
    · exact h3
    · have hl := (mem_all l t).1 ht
      by_cases hc : ofI l t < e
      · have := (mem_beh e l t).2 ⟨hl, hc⟩
        rw [h0] at this
        cases this
      · omega
  · intro h
    have h0 : pick (behP e) l l.length = [] := by
      apply List.eq_nil_iff_forall_not_mem.2
      intro t ht
      obtain ⟨hl, hc⟩ := (mem_beh e l t).1 ht
      have := h2 t ((mem_all l t).2 hl)
      omega
    rw [h0]
    rfl

/-- a script's calls, as they lie in memory -/
def calls (l : List (Int × Int)) : List Value := l.flatMap fun p => [.int .i64 p.1, .int .i64 p.2]
theorem calls_at (l : List (Int × Int)) (k : Nat) (h : k < l.length) : ∃ a b, l[k]? = some (a, b) ∧ (calls l)[k * 2]? = some (.int .i64 a) ∧ (calls l)[k * 2 + 1]? = some (.int .i64 b) := by
  induction l generalizing k with
  | nil => simp at h
  | cons p l ih =>
    cases k with
    | zero => exact ⟨p.1, p.2, by simp [calls]⟩
    | succ k =>
      obtain ⟨a, b, h0, h1, h2⟩ := ih k (by simpa using h)
      have e : calls (p :: l) = .int .i64 p.1 :: .int .i64 p.2 :: calls l := by simp [calls]
      refine ⟨a, b, by simpa using h0, ?_⟩
      rw [e, show (k + 1) * 2 = k * 2 + 1 + 1 by omega]
      simpa using And.intro h1 h2
theorem call_at {w : World} {A : Option Addr} {n c : Nat} {l : List (Int × Int)} (hn : n = l.length) (h : Rd w (.slice A n c) n 2 (calls l)) (k : Nat) (hk : k < n) :
    ∃ ad a b, A = some ad ∧ l[k]? = some (a, b) ∧ w.cell? (ad.add (k * 2)) = some (.int .i64 a) ∧ w.cell? ⟨(ad.add (k * 2)).block, (ad.add (k * 2)).off + 1, none⟩ = some (.int .i64 b) := by
  subst hn
  rcases h.at_ with ⟨_, h0⟩ | ⟨ad, c', he, _, hc⟩
  · omega
  · injection he with he _ _
    obtain ⟨a, b, h0, h1, h2⟩ := calls_at l k hk
    exact ⟨ad, a, b, he, h0, hc _ _ h1, by rw [← add_field _ _ _ (by decide)]; exact hc _ _ h2⟩
theorem calls_cut {w : World} {A : Option Addr} {c : Nat} {l : List (Int × Int)} (h : Rd w (.slice A l.length c) l.length 2 (calls l)) :
    Rd w (.slice A (min 50 l.length) c) (min 50 l.length) 2 (calls (l.take 50)) := by
  have h2 := h.take (m := min 50 l.length) (by omega)
  rw [show (calls l).take (min 50 l.length * 2) = calls (l.take (min 50 l.length)) from Arg.flat_take (fun p : Int × Int => [Value.int .i64 p.1, .int .i64 p.2]) 2 (fun _ => rfl) l _, show l.take (min 50 l.length) = l.take 50 from (List.take_eq_take_min).symm] at h2
  exact h2

set_option maxRecDepth 100000 in
set_option maxHeartbeats 12800000 in
theorem agrees_any (n : Int) (vo : Value) (ops0 : List (Int × Int)) (t : Int) (w : World) (hr0 : Rd w vo ops0.length 2 (calls ops0)) :
    Calls Try.prog 4 #[.int .i64 n, vo, .int .i64 t] w (Same w (.bool true)) := by
  obtain ⟨A, c, rfl, hc⟩ := hr0.slice
  obtain ⟨r, hrm⟩ : ∃ r : Nat, max 0 (min n 8) = (r : Int) := ⟨(max 0 (min n 8)).toNat, by omega⟩
  have HRM := Lib.hid hrm
  have HC := Lib.hid hc
  obtain ⟨m0, hm0⟩ : ∃ m0, m0 = min 50 ops0.length := ⟨_, rfl⟩
  have HO := Lib.hid (calls_cut hr0)
  have hm50 : m0 ≤ 50 := by omega
  have HM0 := Lib.hid hm0
  have HTK : (ops0.take 50).length = m0 := by rw [List.length_take]; omega
  rw [← hm0] at HO
  generalize ops0.take 50 = ops at HO HTK
  clear hr0 hrm hc hm0
  go_enter Try.func4, Try.ntmps4
  go_wp2_with fail
  refine (alive_any _).mono ?_
  rintro x1 w1 ⟨rfl, hb1⟩
  have B1 := Lib.hid hb1
  clear hb1
  go_wp2_with fail
  refine (new_any n r HRM.out _).mono ?_
  rintro x2 w2 ⟨g, v, rfl, hs2, hb2⟩
  have S2 := Lib.hid (hs2.lower B1.out.size)
  have B2 := Lib.hid (B1.out.trans (hb2.mono B1.out.size))
  clear hs2 hb2
  go_wp2_with fail
  refine (few_any A _ c _ HC.out).mono ?_
  rintro x3 w3 ⟨rfl, rfl⟩
  rw [← HM0.out]
  have HI0 : Inv (List.replicate r ((false, 0) : Mb)) 0 := ⟨by omega, by omega, fun k hk => by
    obtain ⟨j, he, hj⟩ := live_lt _ _ hk
    have he : k = j := by omega
    subst he
    rw [liveB_in _ k hj, List.getElem_replicate] at hk
    cases hk⟩
  have HI0 := Lib.hid HI0
  go_wp2
  go_loopw [8, 9, 10] (fun i a9 a10 wr => ∃ k : Nat, k ≤ m0 ∧ i = .int .i64 k ∧ Hid (∃ l e, Reg wr w.heap.size g v l e ∧ Inv l e ∧ e ≤ (k : Int) ∧ Fr (Foot g v) w3 wr)) (fun i _ _ _ => m0 - (intOf i).toNat)
  case atStart => exact ⟨0, Nat.zero_le _, rfl, Lib.hid ⟨_, 0, S2.out, HI0.out, by omega, Fr.refl _ _⟩⟩
  case round =>
    obtain ⟨k, hk, rfl, HQ⟩ := hrel
    obtain ⟨l, e, hs, hi, he, hf⟩ := HQ.out
    have HB : Hid (Below w.heap.size w wr) := Lib.hid (B2.out.trans (S2.out.below hf B2.out.size))
    have S := Lib.hid hs
    have I := Lib.hid hi
    have E := Lib.hid he
    have F := Lib.hid hf
    clear HQ hs hi he hf
    by_cases hlt : k < m0
    · obtain ⟨ad, a, b, rfl, _, x0, x1⟩ := call_at HTK.symm (HO.out.below HB.out) k hlt
      have HLT := Lib.hid hlt
      have i1 : (0 : Int) ≤ (k : Int) := Int.natCast_nonneg _
      have i2 : (k : Int) < (m0 : Int) := by omega
      clear hlt
      by_cases h1 : a = 1
      · subst h1
        go_wp2_with fail
        refine (attach_any _ g v l e b _ S.out).mono ?_
        rintro x5 w5 ⟨rfl, hs5, hf5⟩
        have hi5 := inv_attach I.out b
        obtain ⟨l5, hl5⟩ : ∃ l5, l5 = attachL l e b := ⟨_, rfl⟩
        obtain ⟨e5, he5⟩ : ∃ e5, e5 = e := ⟨_, rfl⟩
        have hee : e5 ≤ e + 1 := by omega
        rw [← hl5] at hs5 hi5
        rw [← he5] at hs5 hi5
        have S5 := Lib.hid hs5
        have I5 := Lib.hid hi5
        have E5 := Lib.hid hee
        have F5 := Lib.hid hf5
        clear hs5 hi5 hf5 hl5 he5 hee
        obtain ⟨xs, hxs⟩ : ∃ xs, xs = pick allP l5 l5.length := ⟨_, rfl⟩
        obtain ⟨L, hL⟩ : ∃ L, L = leastI l5 e5 (pick allP l5 l5.length) := ⟨_, rfl⟩
        have HA : Hid (∀ W, Reg W w.heap.size g v l5 e5 → Calls Try.prog 15 #[.pointer (some ⟨g, 0, none⟩)] W (NumsPost xs W)) := Lib.hid (fun W hW => by rw [hxs]; exact all_any _ g v l5 e5 W hW)
        have HG : Hid (∀ W, Reg W w.heap.size g v l5 e5 → Calls Try.prog 19 #[.pointer (some ⟨g, 0, none⟩)] W (Same W (.bool (L == e5)))) := Lib.hid (fun W hW => by rw [hL, ← agreed_iff]; exact agreed_any _ g v l5 e5 W hW)
        have HLs : Hid (∀ W, Reg W w.heap.size g v l5 e5 → Calls Try.prog 18 #[.pointer (some ⟨g, 0, none⟩)] W (Same W (.int .i64 L))) := Lib.hid (fun W hW => by rw [hL]; exact least_any _ g v l5 e5 W hW)
        have HX : Hid (∀ y ∈ xs, ofI l5 y ≤ e5 ∧ L ≤ ofI l5 y) := Lib.hid (fun y hy => by
          have h2 := (least_spec l5 e5 (pick allP l5 l5.length)).2.1 y (by rw [← hxs]; exact hy)
          rw [hxs, mem_all] at hy
          obtain ⟨j, rfl, _⟩ := live_lt l5 y hy
          exact ⟨(I5.out.at0 j hy).2, by rw [hL]; exact h2⟩)
        have hxl : xs.length ≤ 8 := by rw [hxs]; have := pick_le allP l5 l5.length; have := S5.out.len; omega
        clear hxs hL x0 x1
        go_wp2_with fail
        refine (HA.out _ S5.out).mono ?_
        rintro x6 w6 h6
        obtain ⟨A6, c6, rfl, o6, b6⟩ := h6.slice
        have O6 := Lib.hid o6
        have F6 := Lib.hid (Fr.of_below b6 No)
        clear h6 o6 b6
        go_wp2
        go_loopw [10] (fun j wr => ∃ q : Nat, q ≤ xs.length ∧ j = .int .i64 q ∧ Hid (Fr No w6 wr)) (fun j _ => xs.length - (intOf j).toNat)
        case atStart => exact ⟨0, Nat.zero_le _, rfl, Lib.hid (Fr.refl _ _)⟩
        case round =>
          obtain ⟨q, hq, rfl, FQ⟩ := hrel
          have G5 := Lib.hid (fun (W : World) (hW : Fr No wr W) => S5.out.no ((F6.out.trans FQ.out (fun i h => h.elim)).trans hW (fun i h => h.elim)))
          by_cases hlq : q < xs.length
          · obtain ⟨ad6, rfl, z0a⟩ := rd_at (O6.out.fr FQ.out (fun _ _ h => h)).rd q hlq
            obtain ⟨y, hy, z0⟩ : ∃ y, xs[q]? = some y ∧ wr.cell? (ad6.add q) = some (.int .i64 y) := ⟨_, List.getElem?_eq_getElem hlq, z0a⟩
            have HLQ := Lib.hid hlq
            obtain ⟨hz1, hz2⟩ := HX.out y (List.mem_of_getElem? hy)
            have HOF : Hid (∀ W, Reg W w.heap.size g v l5 e5 → Calls Try.prog 16 #[.pointer (some ⟨g, 0, none⟩), .int .i64 y] W (Quiet W (.int .i64 (ofI l5 y)))) := Lib.hid (fun W hW => of_any _ g v l5 e5 y W hW)
            obtain ⟨z, hz⟩ : ∃ z, z = ofI l5 y := ⟨_, rfl⟩
            rw [← hz] at hz1 hz2 HOF
            have g1 : decide (e5 < z) = false := by simp; omega
            have g2 : decide (z < L) = false := by simp; omega
            have j1 : (0 : Int) ≤ (q : Int) := Int.natCast_nonneg _
            have j2 : (q : Int) < (xs.length : Int) := by omega
            clear hy z0a hz hz1 hz2 hlq
            go_wp2_with fail
            refine (HOF.out _ (G5.out _ (Fr.refl _ _))).mono ?_
            rintro x7 w7 ⟨rfl, n7, rfl⟩
            go_wp2_with fail
            refine (epoch_any _ g v l5 e5 _ (G5.out _ (Fr.drewN (Fr.refl _ _) n7))).mono ?_
            rintro x8 w8 ⟨rfl, n8, rfl⟩
            go_wp2_with fail
            refine (HOF.out _ (G5.out _ (by repeat (first | exact Fr.refl _ _ | apply Fr.drewN | apply Fr.drew)))).mono ?_
            rintro x9 w9 ⟨rfl, n9, rfl⟩
            go_wp2_with fail
            refine (HLs.out _ (G5.out _ (by repeat (first | exact Fr.refl _ _ | apply Fr.drewN | apply Fr.drew)))).mono ?_
            rintro x10 w10 ⟨rfl, h10⟩
            have F10 : Hid (Fr No wr w10) := Lib.hid (Fr.then_below (by repeat (first | exact Fr.refl _ _ | apply Fr.drewN | apply Fr.drew)) h10)
            clear h10
            go_wp2
            go_roundw
            case rel => exact ⟨q + 1, by have := HLQ.out; omega, by go_num, Lib.hid (FQ.out.trans F10.out (fun i h => h.elim))⟩
            case measure => simp [intOf]; have := HLQ.out; omega
          · obtain rfl : q = xs.length := by omega
            clear hlq
            go_wp2_with fail
            refine (HG.out _ (G5.out _ (Fr.refl _ _))).mono ?_
            rintro x7 w7 ⟨rfl, h7⟩
            have F7 := Lib.hid (Fr.of_below h7 No)
            clear h7
            go_wp2_with fail
            refine (HLs.out _ (G5.out _ F7.out)).mono ?_
            rintro x8 w8 ⟨rfl, h8⟩
            have F8 := Lib.hid (F7.out.then_below h8)
            clear h8
            go_wp2_with fail
            refine (epoch_any _ g v l5 e5 _ (G5.out _ F8.out)).mono ?_
            rintro x9 w9 ⟨rfl, n9, rfl⟩
            go_wp2
            go_roundw
            case rel => exact ⟨k + 1, by have := HLT.out; omega, by go_num, Lib.hid ⟨l5, e5, G5.out _ (F8.out.drewN n9), I5.out, by have := E.out; have := E5.out; omega, ((F.out.trans F5.out (fun i hi => .inl hi)).trans (F6.out.trans FQ.out (fun i h => h.elim)) (fun i h => h.elim)).trans (F8.out.drewN n9) (fun i h => h.elim)⟩⟩
            case measure => simp [intOf]; have := HLT.out; omega
      have g1 : (a == 1) = false := by simpa using h1
      clear h1
      by_cases h2 : a = 2
      · subst h2
        go_wp2_with fail
        refine (detach_any _ g v l e b _ S.out).mono ?_
        rintro x5 w5 ⟨rfl, hs5, hf5⟩
        have hi5 := inv_detach I.out b
        obtain ⟨l5, hl5⟩ : ∃ l5, l5 = detachL l b := ⟨_, rfl⟩
        obtain ⟨e5, he5⟩ : ∃ e5, e5 = e := ⟨_, rfl⟩
        have hee : e5 ≤ e + 1 := by omega
        rw [← hl5] at hs5 hi5
        rw [← he5] at hs5 hi5
        have S5 := Lib.hid hs5
        have I5 := Lib.hid hi5
        have E5 := Lib.hid hee
        have F5 := Lib.hid hf5
        clear hs5 hi5 hf5 hl5 he5 hee
        obtain ⟨xs, hxs⟩ : ∃ xs, xs = pick allP l5 l5.length := ⟨_, rfl⟩
        obtain ⟨L, hL⟩ : ∃ L, L = leastI l5 e5 (pick allP l5 l5.length) := ⟨_, rfl⟩
        have HA : Hid (∀ W, Reg W w.heap.size g v l5 e5 → Calls Try.prog 15 #[.pointer (some ⟨g, 0, none⟩)] W (NumsPost xs W)) := Lib.hid (fun W hW => by rw [hxs]; exact all_any _ g v l5 e5 W hW)
        have HG : Hid (∀ W, Reg W w.heap.size g v l5 e5 → Calls Try.prog 19 #[.pointer (some ⟨g, 0, none⟩)] W (Same W (.bool (L == e5)))) := Lib.hid (fun W hW => by rw [hL, ← agreed_iff]; exact agreed_any _ g v l5 e5 W hW)
        have HLs : Hid (∀ W, Reg W w.heap.size g v l5 e5 → Calls Try.prog 18 #[.pointer (some ⟨g, 0, none⟩)] W (Same W (.int .i64 L))) := Lib.hid (fun W hW => by rw [hL]; exact least_any _ g v l5 e5 W hW)
        have HX : Hid (∀ y ∈ xs, ofI l5 y ≤ e5 ∧ L ≤ ofI l5 y) := Lib.hid (fun y hy => by
          have h2 := (least_spec l5 e5 (pick allP l5 l5.length)).2.1 y (by rw [← hxs]; exact hy)
          rw [hxs, mem_all] at hy
          obtain ⟨j, rfl, _⟩ := live_lt l5 y hy
          exact ⟨(I5.out.at0 j hy).2, by rw [hL]; exact h2⟩)
        have hxl : xs.length ≤ 8 := by rw [hxs]; have := pick_le allP l5 l5.length; have := S5.out.len; omega
        clear hxs hL x0 x1
        go_wp2_with fail
        refine (HA.out _ S5.out).mono ?_
        rintro x6 w6 h6
        obtain ⟨A6, c6, rfl, o6, b6⟩ := h6.slice
        have O6 := Lib.hid o6
        have F6 := Lib.hid (Fr.of_below b6 No)
        clear h6 o6 b6
        go_wp2
        go_loopw [10] (fun j wr => ∃ q : Nat, q ≤ xs.length ∧ j = .int .i64 q ∧ Hid (Fr No w6 wr)) (fun j _ => xs.length - (intOf j).toNat)
        case atStart => exact ⟨0, Nat.zero_le _, rfl, Lib.hid (Fr.refl _ _)⟩
        case round =>
          obtain ⟨q, hq, rfl, FQ⟩ := hrel
          have G5 := Lib.hid (fun (W : World) (hW : Fr No wr W) => S5.out.no ((F6.out.trans FQ.out (fun i h => h.elim)).trans hW (fun i h => h.elim)))
          by_cases hlq : q < xs.length
          · obtain ⟨ad6, rfl, z0a⟩ := rd_at (O6.out.fr FQ.out (fun _ _ h => h)).rd q hlq
            obtain ⟨y, hy, z0⟩ : ∃ y, xs[q]? = some y ∧ wr.cell? (ad6.add q) = some (.int .i64 y) := ⟨_, List.getElem?_eq_getElem hlq, z0a⟩
            have HLQ := Lib.hid hlq
            obtain ⟨hz1, hz2⟩ := HX.out y (List.mem_of_getElem? hy)
            have HOF : Hid (∀ W, Reg W w.heap.size g v l5 e5 → Calls Try.prog 16 #[.pointer (some ⟨g, 0, none⟩), .int .i64 y] W (Quiet W (.int .i64 (ofI l5 y)))) := Lib.hid (fun W hW => of_any _ g v l5 e5 y W hW)
            obtain ⟨z, hz⟩ : ∃ z, z = ofI l5 y := ⟨_, rfl⟩
            rw [← hz] at hz1 hz2 HOF
            have g1 : decide (e5 < z) = false := by simp; omega
            have g2 : decide (z < L) = false := by simp; omega
            have j1 : (0 : Int) ≤ (q : Int) := Int.natCast_nonneg _
            have j2 : (q : Int) < (xs.length : Int) := by omega
            clear hy z0a hz hz1 hz2 hlq
            go_wp2_with fail
            refine (HOF.out _ (G5.out _ (Fr.refl _ _))).mono ?_
            rintro x7 w7 ⟨rfl, n7, rfl⟩
            go_wp2_with fail
            refine (epoch_any _ g v l5 e5 _ (G5.out _ (Fr.drewN (Fr.refl _ _) n7))).mono ?_
            rintro x8 w8 ⟨rfl, n8, rfl⟩
            go_wp2_with fail
            refine (HOF.out _ (G5.out _ (by repeat (first | exact Fr.refl _ _ | apply Fr.drewN | apply Fr.drew)))).mono ?_
            rintro x9 w9 ⟨rfl, n9, rfl⟩
            go_wp2_with fail
            refine (HLs.out _ (G5.out _ (by repeat (first | exact Fr.refl _ _ | apply Fr.drewN | apply Fr.drew)))).mono ?_
            rintro x10 w10 ⟨rfl, h10⟩
            have F10 : Hid (Fr No wr w10) := Lib.hid (Fr.then_below (by repeat (first | exact Fr.refl _ _ | apply Fr.drewN | apply Fr.drew)) h10)
            clear h10
            go_wp2
            go_roundw
            case rel => exact ⟨q + 1, by have := HLQ.out; omega, by go_num, Lib.hid (FQ.out.trans F10.out (fun i h => h.elim))⟩
            case measure => simp [intOf]; have := HLQ.out; omega
          · obtain rfl : q = xs.length := by omega
            clear hlq
            go_wp2_with fail
            refine (HG.out _ (G5.out _ (Fr.refl _ _))).mono ?_
            rintro x7 w7 ⟨rfl, h7⟩
            have F7 := Lib.hid (Fr.of_below h7 No)
            clear h7
            go_wp2_with fail
            refine (HLs.out _ (G5.out _ F7.out)).mono ?_
            rintro x8 w8 ⟨rfl, h8⟩
            have F8 := Lib.hid (F7.out.then_below h8)
            clear h8
            go_wp2_with fail
            refine (epoch_any _ g v l5 e5 _ (G5.out _ F8.out)).mono ?_
            rintro x9 w9 ⟨rfl, n9, rfl⟩
            go_wp2
            go_roundw
            case rel => exact ⟨k + 1, by have := HLT.out; omega, by go_num, Lib.hid ⟨l5, e5, G5.out _ (F8.out.drewN n9), I5.out, by have := E.out; have := E5.out; omega, ((F.out.trans F5.out (fun i hi => .inl hi)).trans (F6.out.trans FQ.out (fun i h => h.elim)) (fun i h => h.elim)).trans (F8.out.drewN n9) (fun i h => h.elim)⟩⟩
            case measure => simp [intOf]; have := HLT.out; omega
      have g2 : (a == 2) = false := by simpa using h2
      clear h2
      by_cases h3 : a = 3
      · subst h3
        go_wp2_with fail
        refine (raise_any _ g v l e _ S.out).mono ?_
        rintro x5 w5 ⟨rfl, hs5, hf5⟩
        have hi5 := (inv_raise I.out (by have := E.out; omega)).1
        obtain ⟨l5, hl5⟩ : ∃ l5, l5 = l := ⟨_, rfl⟩
        obtain ⟨e5, he5⟩ : ∃ e5, e5 = wrap64 (e + 1) := ⟨_, rfl⟩
        have hee : e5 ≤ e + 1 := by rw [he5, (inv_raise I.out (by have := E.out; omega)).2]; omega
        rw [← hl5] at hs5 hi5
        rw [← he5] at hs5 hi5
        have S5 := Lib.hid hs5
        have I5 := Lib.hid hi5
        have E5 := Lib.hid hee
        have F5 := Lib.hid hf5
        clear hs5 hi5 hf5 hl5 he5 hee
        obtain ⟨xs, hxs⟩ : ∃ xs, xs = pick allP l5 l5.length := ⟨_, rfl⟩
        obtain ⟨L, hL⟩ : ∃ L, L = leastI l5 e5 (pick allP l5 l5.length) := ⟨_, rfl⟩
        have HA : Hid (∀ W, Reg W w.heap.size g v l5 e5 → Calls Try.prog 15 #[.pointer (some ⟨g, 0, none⟩)] W (NumsPost xs W)) := Lib.hid (fun W hW => by rw [hxs]; exact all_any _ g v l5 e5 W hW)
        have HG : Hid (∀ W, Reg W w.heap.size g v l5 e5 → Calls Try.prog 19 #[.pointer (some ⟨g, 0, none⟩)] W (Same W (.bool (L == e5)))) := Lib.hid (fun W hW => by rw [hL, ← agreed_iff]; exact agreed_any _ g v l5 e5 W hW)
        have HLs : Hid (∀ W, Reg W w.heap.size g v l5 e5 → Calls Try.prog 18 #[.pointer (some ⟨g, 0, none⟩)] W (Same W (.int .i64 L))) := Lib.hid (fun W hW => by rw [hL]; exact least_any _ g v l5 e5 W hW)
        have HX : Hid (∀ y ∈ xs, ofI l5 y ≤ e5 ∧ L ≤ ofI l5 y) := Lib.hid (fun y hy => by
          have h2 := (least_spec l5 e5 (pick allP l5 l5.length)).2.1 y (by rw [← hxs]; exact hy)
          rw [hxs, mem_all] at hy
          obtain ⟨j, rfl, _⟩ := live_lt l5 y hy
          exact ⟨(I5.out.at0 j hy).2, by rw [hL]; exact h2⟩)
        have hxl : xs.length ≤ 8 := by rw [hxs]; have := pick_le allP l5 l5.length; have := S5.out.len; omega
        clear hxs hL x0 x1
        go_wp2_with fail
        refine (HA.out _ S5.out).mono ?_
        rintro x6 w6 h6
        obtain ⟨A6, c6, rfl, o6, b6⟩ := h6.slice
        have O6 := Lib.hid o6
        have F6 := Lib.hid (Fr.of_below b6 No)
        clear h6 o6 b6
        go_wp2
        go_loopw [10] (fun j wr => ∃ q : Nat, q ≤ xs.length ∧ j = .int .i64 q ∧ Hid (Fr No w6 wr)) (fun j _ => xs.length - (intOf j).toNat)
        case atStart => exact ⟨0, Nat.zero_le _, rfl, Lib.hid (Fr.refl _ _)⟩
        case round =>
          obtain ⟨q, hq, rfl, FQ⟩ := hrel
          have G5 := Lib.hid (fun (W : World) (hW : Fr No wr W) => S5.out.no ((F6.out.trans FQ.out (fun i h => h.elim)).trans hW (fun i h => h.elim)))
          by_cases hlq : q < xs.length
          · obtain ⟨ad6, rfl, z0a⟩ := rd_at (O6.out.fr FQ.out (fun _ _ h => h)).rd q hlq
            obtain ⟨y, hy, z0⟩ : ∃ y, xs[q]? = some y ∧ wr.cell? (ad6.add q) = some (.int .i64 y) := ⟨_, List.getElem?_eq_getElem hlq, z0a⟩
            have HLQ := Lib.hid hlq
            obtain ⟨hz1, hz2⟩ := HX.out y (List.mem_of_getElem? hy)
            have HOF : Hid (∀ W, Reg W w.heap.size g v l5 e5 → Calls Try.prog 16 #[.pointer (some ⟨g, 0, none⟩), .int .i64 y] W (Quiet W (.int .i64 (ofI l5 y)))) := Lib.hid (fun W hW => of_any _ g v l5 e5 y W hW)
            obtain ⟨z, hz⟩ : ∃ z, z = ofI l5 y := ⟨_, rfl⟩
            rw [← hz] at hz1 hz2 HOF
            have g1 : decide (e5 < z) = false := by simp; omega
            have g2 : decide (z < L) = false := by simp; omega
            have j1 : (0 : Int) ≤ (q : Int) := Int.natCast_nonneg _
            have j2 : (q : Int) < (xs.length : Int) := by omega
            clear hy z0a hz hz1 hz2 hlq
            go_wp2_with fail
            refine (HOF.out _ (G5.out _ (Fr.refl _ _))).mono ?_
            rintro x7 w7 ⟨rfl, n7, rfl⟩
            go_wp2_with fail
            refine (epoch_any _ g v l5 e5 _ (G5.out _ (Fr.drewN (Fr.refl _ _) n7))).mono ?_
            rintro x8 w8 ⟨rfl, n8, rfl⟩
            go_wp2_with fail
            refine (HOF.out _ (G5.out _ (by repeat (first | exact Fr.refl _ _ | apply Fr.drewN | apply Fr.drew)))).mono ?_
            rintro x9 w9 ⟨rfl, n9, rfl⟩
            go_wp2_with fail
            refine (HLs.out _ (G5.out _ (by repeat (first | exact Fr.refl _ _ | apply Fr.drewN | apply Fr.drew)))).mono ?_
            rintro x10 w10 ⟨rfl, h10⟩
            have F10 : Hid (Fr No wr w10) := Lib.hid (Fr.then_below (by repeat (first | exact Fr.refl _ _ | apply Fr.drewN | apply Fr.drew)) h10)
            clear h10
            go_wp2
            go_roundw
            case rel => exact ⟨q + 1, by have := HLQ.out; omega, by go_num, Lib.hid (FQ.out.trans F10.out (fun i h => h.elim))⟩
            case measure => simp [intOf]; have := HLQ.out; omega
          · obtain rfl : q = xs.length := by omega
            clear hlq
            go_wp2_with fail
            refine (HG.out _ (G5.out _ (Fr.refl _ _))).mono ?_
            rintro x7 w7 ⟨rfl, h7⟩
            have F7 := Lib.hid (Fr.of_below h7 No)
            clear h7
            go_wp2_with fail
            refine (HLs.out _ (G5.out _ F7.out)).mono ?_
            rintro x8 w8 ⟨rfl, h8⟩
            have F8 := Lib.hid (F7.out.then_below h8)
            clear h8
            go_wp2_with fail
            refine (epoch_any _ g v l5 e5 _ (G5.out _ F8.out)).mono ?_
            rintro x9 w9 ⟨rfl, n9, rfl⟩
            go_wp2
            go_roundw
            case rel => exact ⟨k + 1, by have := HLT.out; omega, by go_num, Lib.hid ⟨l5, e5, G5.out _ (F8.out.drewN n9), I5.out, by have := E.out; have := E5.out; omega, ((F.out.trans F5.out (fun i hi => .inl hi)).trans (F6.out.trans FQ.out (fun i h => h.elim)) (fun i h => h.elim)).trans (F8.out.drewN n9) (fun i h => h.elim)⟩⟩
            case measure => simp [intOf]; have := HLT.out; omega
      have g3 : (a == 3) = false := by simpa using h3
      clear h3
      go_wp2_with fail
      refine (confirm_any _ g v l e b _ S.out).mono ?_
      rintro x5 w5 ⟨rfl, hs5, hf5⟩
      have hi5 := inv_confirm I.out b
      obtain ⟨l5, hl5⟩ : ∃ l5, l5 = confirmL l e b := ⟨_, rfl⟩
      obtain ⟨e5, he5⟩ : ∃ e5, e5 = e := ⟨_, rfl⟩
      have hee : e5 ≤ e + 1 := by omega
      rw [← hl5] at hs5 hi5
      rw [← he5] at hs5 hi5
      have S5 := Lib.hid hs5
      have I5 := Lib.hid hi5
      have E5 := Lib.hid hee
      have F5 := Lib.hid hf5
      clear hs5 hi5 hf5 hl5 he5 hee
      obtain ⟨xs, hxs⟩ : ∃ xs, xs = pick allP l5 l5.length := ⟨_, rfl⟩
      obtain ⟨L, hL⟩ : ∃ L, L = leastI l5 e5 (pick allP l5 l5.length) := ⟨_, rfl⟩
      have HA : Hid (∀ W, Reg W w.heap.size g v l5 e5 → Calls Try.prog 15 #[.pointer (some ⟨g, 0, none⟩)] W (NumsPost xs W)) := Lib.hid (fun W hW => by rw [hxs]; exact all_any _ g v l5 e5 W hW)
      have HG : Hid (∀ W, Reg W w.heap.size g v l5 e5 → Calls Try.prog 19 #[.pointer (some ⟨g, 0, none⟩)] W (Same W (.bool (L == e5)))) := Lib.hid (fun W hW => by rw [hL, ← agreed_iff]; exact agreed_any _ g v l5 e5 W hW)
      have HLs : Hid (∀ W, Reg W w.heap.size g v l5 e5 → Calls Try.prog 18 #[.pointer (some ⟨g, 0, none⟩)] W (Same W (.int .i64 L))) := Lib.hid (fun W hW => by rw [hL]; exact least_any _ g v l5 e5 W hW)
      have HX : Hid (∀ y ∈ xs, ofI l5 y ≤ e5 ∧ L ≤ ofI l5 y) := Lib.hid (fun y hy => by
        have h2 := (least_spec l5 e5 (pick allP l5 l5.length)).2.1 y (by rw [← hxs]; exact hy)
        rw [hxs, mem_all] at hy
        obtain ⟨j, rfl, _⟩ := live_lt l5 y hy
        exact ⟨(I5.out.at0 j hy).2, by rw [hL]; exact h2⟩)
      have hxl : xs.length ≤ 8 := by rw [hxs]; have := pick_le allP l5 l5.length; have := S5.out.len; omega
      clear hxs hL x0 x1
      go_wp2_with fail
      refine (HA.out _ S5.out).mono ?_
      rintro x6 w6 h6
      obtain ⟨A6, c6, rfl, o6, b6⟩ := h6.slice
      have O6 := Lib.hid o6
      have F6 := Lib.hid (Fr.of_below b6 No)
      clear h6 o6 b6
      go_wp2
      go_loopw [10] (fun j wr => ∃ q : Nat, q ≤ xs.length ∧ j = .int .i64 q ∧ Hid (Fr No w6 wr)) (fun j _ => xs.length - (intOf j).toNat)
      case atStart => exact ⟨0, Nat.zero_le _, rfl, Lib.hid (Fr.refl _ _)⟩
      case round =>
        obtain ⟨q, hq, rfl, FQ⟩ := hrel
        have G5 := Lib.hid (fun (W : World) (hW : Fr No wr W) => S5.out.no ((F6.out.trans FQ.out (fun i h => h.elim)).trans hW (fun i h => h.elim)))
        by_cases hlq : q < xs.length
        · obtain ⟨ad6, rfl, z0a⟩ := rd_at (O6.out.fr FQ.out (fun _ _ h => h)).rd q hlq
          obtain ⟨y, hy, z0⟩ : ∃ y, xs[q]? = some y ∧ wr.cell? (ad6.add q) = some (.int .i64 y) := ⟨_, List.getElem?_eq_getElem hlq, z0a⟩
          have HLQ := Lib.hid hlq
          obtain ⟨hz1, hz2⟩ := HX.out y (List.mem_of_getElem? hy)
          have HOF : Hid (∀ W, Reg W w.heap.size g v l5 e5 → Calls Try.prog 16 #[.pointer (some ⟨g, 0, none⟩), .int .i64 y] W (Quiet W (.int .i64 (ofI l5 y)))) := Lib.hid (fun W hW => of_any _ g v l5 e5 y W hW)
          obtain ⟨z, hz⟩ : ∃ z, z = ofI l5 y := ⟨_, rfl⟩
          rw [← hz] at hz1 hz2 HOF
          have g1 : decide (e5 < z) = false := by simp; omega
          have g2 : decide (z < L) = false := by simp; omega
          have j1 : (0 : Int) ≤ (q : Int) := Int.natCast_nonneg _
          have j2 : (q : Int) < (xs.length : Int) := by omega
          clear hy z0a hz hz1 hz2 hlq
          go_wp2_with fail
          refine (HOF.out _ (G5.out _ (Fr.refl _ _))).mono ?_
          rintro x7 w7 ⟨rfl, n7, rfl⟩
          go_wp2_with fail
          refine (epoch_any _ g v l5 e5 _ (G5.out _ (Fr.drewN (Fr.refl _ _) n7))).mono ?_
          rintro x8 w8 ⟨rfl, n8, rfl⟩
          go_wp2_with fail
          refine (HOF.out _ (G5.out _ (by repeat (first | exact Fr.refl _ _ | apply Fr.drewN | apply Fr.drew)))).mono ?_
          rintro x9 w9 ⟨rfl, n9, rfl⟩
          go_wp2_with fail
          refine (HLs.out _ (G5.out _ (by repeat (first | exact Fr.refl _ _ | apply Fr.drewN | apply Fr.drew)))).mono ?_
          rintro x10 w10 ⟨rfl, h10⟩
          have F10 : Hid (Fr No wr w10) := Lib.hid (Fr.then_below (by repeat (first | exact Fr.refl _ _ | apply Fr.drewN | apply Fr.drew)) h10)
          clear h10
          go_wp2
          go_roundw
          case rel => exact ⟨q + 1, by have := HLQ.out; omega, by go_num, Lib.hid (FQ.out.trans F10.out (fun i h => h.elim))⟩
          case measure => simp [intOf]; have := HLQ.out; omega
        · obtain rfl : q = xs.length := by omega
          clear hlq
          go_wp2_with fail
          refine (HG.out _ (G5.out _ (Fr.refl _ _))).mono ?_
          rintro x7 w7 ⟨rfl, h7⟩
          have F7 := Lib.hid (Fr.of_below h7 No)
          clear h7
          go_wp2_with fail
          refine (HLs.out _ (G5.out _ F7.out)).mono ?_
          rintro x8 w8 ⟨rfl, h8⟩
          have F8 := Lib.hid (F7.out.then_below h8)
          clear h8
          go_wp2_with fail
          refine (epoch_any _ g v l5 e5 _ (G5.out _ F8.out)).mono ?_
          rintro x9 w9 ⟨rfl, n9, rfl⟩
          go_wp2
          go_roundw
          case rel => exact ⟨k + 1, by have := HLT.out; omega, by go_num, Lib.hid ⟨l5, e5, G5.out _ (F8.out.drewN n9), I5.out, by have := E.out; have := E5.out; omega, ((F.out.trans F5.out (fun i hi => .inl hi)).trans (F6.out.trans FQ.out (fun i h => h.elim)) (fun i h => h.elim)).trans (F8.out.drewN n9) (fun i h => h.elim)⟩⟩
          case measure => simp [intOf]; have := HLT.out; omega
    · obtain rfl : k = m0 := by omega
      clear hlt
      have CA := attach_any _ g v l e t _ S.out
      cases hb : attachB l t with
      | false =>
        rw [hb] at CA
        have CA := Lib.hid CA
        clear hb
        go_wp2_with fail
        refine CA.out.mono ?_
        rintro x5 w5 ⟨rfl, hs5, hf5⟩
        have F5 := Lib.hid (S.out.below hf5 HB.out.size)
        clear hs5 hf5 CA
        go_wp2
        go_ret
        exact ⟨rfl, HB.out.trans F5.out⟩
      | true =>
        obtain ⟨l5, hl5⟩ : ∃ l5, l5 = attachL l e t := ⟨_, rfl⟩
        have hof : ofI l5 t = e := by
          rw [hl5]
          unfold attachL
          rw [if_pos hb]
          unfold attachB at hb
          simp at hb
          obtain ⟨j, rfl⟩ := Int.eq_ofNat_of_zero_le hb.1.1
          have hj : j < l.length := by omega
          have hl : liveB (l.set j (true, e)) (j : Int) = true := by rw [liveB_in _ j (by rw [List.length_set]; exact hj), List.getElem_set_self]
          rw [Int.toNat_natCast, ofI_in _ j (by rw [List.length_set]; exact hj) hl, List.getElem_set_self]
        rw [hb, ← hl5] at CA
        have CA := Lib.hid CA
        obtain ⟨ys, hys⟩ : ∃ ys, ys = pick (behP e) l5 l5.length := ⟨_, rfl⟩
        have HNI := Lib.hid (show ¬ t ∈ ys from fun h => by
          rw [hys, mem_beh] at h
          omega)
        have HYS := Lib.hid hys
        have HOF := Lib.hid hof
        clear hb hl5 hof hys
        go_wp2_with fail
        refine CA.out.mono ?_
        rintro x5 w5 ⟨rfl, hs5, hf5⟩
        have S5 := Lib.hid hs5
        have B5 := Lib.hid (HB.out.trans (S.out.below hf5 HB.out.size))
        have hyl : ys.length ≤ 8 := by rw [HYS.out]; have := pick_le (behP e) l5 l5.length; have := hs5.len; omega
        clear hs5 hf5 CA
        go_wp2_with fail
        have C6 := of_any _ g v l5 e t _ S5.out
        rw [HOF.out] at C6
        refine C6.mono ?_
        clear C6
        rintro x6 w6 ⟨rfl, n6, rfl⟩
        go_wp2_with fail
        refine (epoch_any _ g v l5 e _ (S5.out.no (Fr.drewN (Fr.refl _ _) n6))).mono ?_
        rintro x7 w7 ⟨rfl, n7, rfl⟩
        go_wp2_with fail
        have C8 := behind_any _ g v l5 e (w5.drewN (n6 + n7)) (S5.out.no (Fr.drewN (Fr.refl No w5) _))
        rw [← HYS.out] at C8
        refine C8.mono ?_
        clear C8
        rintro x8 w8 h8
        obtain ⟨A8, c8, rfl, o8, b8⟩ := h8.slice
        have O8 := Lib.hid o8
        have F8 := Lib.hid (Fr.then_below (Fr.drewN (Fr.refl No w5) (n6 + n7)) b8)
        clear h8 o8 b8
        go_wp2_with fail
        have C9 := in_any A8 ys.length c8 ys t rfl _ O8.out.rd hyl
        rw [decide_eq_false HNI.out] at C9
        refine C9.mono ?_
        clear C9
        rintro x9 w9 ⟨rfl, n9, rfl⟩
        go_wp2
        go_ret
        exact ⟨rfl, B5.out.trans ((F8.out.drewN n9).below B5.out.size (fun _ h => h.elim))⟩

end Go.Proofs.Ytneogdjogdbmcaa.EpochAgrees
