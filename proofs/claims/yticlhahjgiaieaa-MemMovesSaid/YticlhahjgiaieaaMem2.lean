/- Proved: what the calls Store, Load, Len, Move, All, Clone and New of package mem do and answer; and what memories that nobody made tell. -/
import Derived.Test.YticlhahjgiaieaaMem
import Derived.Deep.OwnRows
import Derived.Laws.CopyOwn
namespace Go.Proofs.Yticlhahjgiaieaa.Mem
open Go.RowKit Go.Proofs.Yticlhahjgiaieaa.H Go.Proofs.Yticlhahjgiaieaa.Words

theorem fillL_one (l : List Int) (a : Nat) (x : Int) (h : a < l.length) : fillL l a 1 x = l.set a x := by
  have h2 := fillL_succ l a 0 x (by omega)
  rw [fillL_zero] at h2
  exact h2.symm

set_option maxHeartbeats 1600000 in
theorem store_no (B g : Nat) (v : Value) (l : List Int) (a x : Int) (w : World) (hs : M w B g v l) (ht : ¬ There l a 1) :
    Calls Try.prog 14 #[.pointer (some ⟨g, 0, none⟩), .int .i64 a, .int .i64 x] w (FillPost B g v l false w) := by
  have HS := Lib.hid hs
  have HT := Lib.hid ht
  clear hs ht
  go_enter Try.func14, Try.ntmps14
  go_wp2_with (go_at_call 19; refine (fill_no B g v l a 1 x _ HS.out HT.out).mono ?_; rintro e w' ⟨rfl, h1, h2⟩)
  go_ret
  exact ⟨rfl, h1, h2⟩

set_option maxHeartbeats 1600000 in
theorem store_yes (B g : Nat) (v : Value) (l : List Int) (a : Nat) (x : Int) (w : World) (hs : M w B g v l) (ht : a < l.length) :
    Calls Try.prog 14 #[.pointer (some ⟨g, 0, none⟩), .int .i64 a, .int .i64 x] w (FillPost B g v (l.set a x) true w) := by
  have HS := Lib.hid hs
  have HE := Lib.hid (fillL_one l a x ht)
  clear hs
  go_enter Try.func14, Try.ntmps14
  go_wp2_with fail
  have HC := fill_yes B g v l a 1 x w HS.out (by omega)
  refine HC.mono ?_
  rintro e w' ⟨rfl, h1, h2⟩
  rw [HE.out] at h1
  clear HC
  go_wp2
  go_ret
  exact ⟨rfl, h1, h2⟩

set_option maxHeartbeats 1600000 in
theorem load_no (B g : Nat) (v : Value) (l : List Int) (a : Int) (w : World) (hs : M w B g v l) (ht : ¬ There l a 1) :
    Calls Try.prog 18 #[.pointer (some ⟨g, 0, none⟩), .int .i64 a] w (Quiet w (.tuple #[.int .i64 0, .bool false])) := by
  have HS := Lib.hid hs
  have HT := Lib.hid ht
  clear hs ht
  go_enter Try.func18, Try.ntmps18
  go_wp2_with (go_at_call 24; refine (part_no B g v l a 1 _ HS.out HT.out).mono ?_; rintro e w' ⟨rfl, k, rfl⟩)
  go_ret2
  exact ⟨rfl, k, rfl⟩

set_option maxHeartbeats 1600000 in
theorem load_yes (B g : Nat) (v : Value) (l : List Int) (a : Nat) (x : Int) (w : World) (hs : M w B g v l) (hx : l[a]? = some x) :
    Calls Try.prog 18 #[.pointer (some ⟨g, 0, none⟩), .int .i64 a] w (Quiet w (.tuple #[.int .i64 x, .bool true])) := by
  obtain ⟨ht, hx⟩ := List.getElem?_eq_some_iff.1 hx
  obtain ⟨A, c, rfl, _⟩ := hs.own.slice
  obtain ⟨d, c', he, x0, _, _⟩ := hs.own.at_ a ht
  injection he with he _ he3
  subst he he3
  rw [hx] at x0
  have HS := Lib.hid hs
  clear hs hx
  go_enter Try.func18, Try.ntmps18
  go_wp2_with fail
  have HC := part_yes B g (some ⟨d, 0, none⟩) c l a 1 w HS.out (by omega)
  refine HC.mono ?_
  rintro e w' ⟨A', rfl, hA, k, rfl⟩
  clear HC
  obtain rfl : A' = some ⟨d, a, none⟩ := by
    rcases hA with h | ⟨d', h1, h2⟩
    · omega
    · injection h1 with h1; injection h1 with h1; subst h1; exact h2
  clear hA
  go_wp2
  go_ret2
  exact ⟨rfl, k, rfl⟩

set_option maxHeartbeats 1600000 in
theorem len_any (B g : Nat) (v : Value) (l : List Int) (w : World) (hs : M w B g v l) :
    Calls Try.prog 20 #[.pointer (some ⟨g, 0, none⟩)] w (Quiet w (.int .i64 l.length)) := by
  obtain ⟨A, c, rfl, _⟩ := hs.own.slice
  have c1 : w.cell? ⟨g, 1, none⟩ = some (.slice A l.length c) := cell_of hs.blk 1
  clear hs
  go_enter Try.func20, Try.ntmps20
  go_wp2
  go_ret
  exact ⟨rfl, 0, rfl⟩

/-- some words become others -/
def moveL (l : List Int) (q f n : Nat) : List Int := l.take q ++ (l.drop f).take n ++ l.drop (q + n)
theorem moveL_length (l : List Int) (q f n : Nat) (h : q + n ≤ l.length) (h2 : f + n ≤ l.length) : (moveL l q f n).length = l.length := by simp [moveL]; omega

set_option maxHeartbeats 1600000 in
theorem move_no (B g : Nat) (v : Value) (l : List Int) (a b n : Int) (w : World) (hs : M w B g v l) (ht : ¬ (There l a n ∧ There l b n)) :
    Calls Try.prog 16 #[.pointer (some ⟨g, 0, none⟩), .int .i64 a, .int .i64 b, .int .i64 n] w (FillPost B g v l false w) := by
  obtain ⟨A, c, rfl, _⟩ := hs.own.slice
  have HS := Lib.hid hs
  clear hs
  by_cases h1 : There l a n
  · have HB : Hid (¬ There l b n) := Lib.hid (fun h => ht ⟨h1, h⟩)
    obtain ⟨a, rfl⟩ := Int.eq_ofNat_of_zero_le h1.1
    obtain ⟨n, rfl⟩ := Int.eq_ofNat_of_zero_le h1.2.1
    have hle : a + n ≤ l.length := by unfold There at h1; omega
    clear ht h1
    go_enter Try.func16, Try.ntmps16
    go_wp2_with fail
    refine (part_yes B g A c l a n _ HS.out hle).mono ?_
    rintro e w' ⟨A', rfl, _, k, rfl⟩
    go_wp2_with fail
    refine (part_no B g _ l b n _ (HS.out.no (Fr.drewN (Fr.refl _ w) k)) HB.out).mono ?_
    rintro e w' ⟨rfl, k2, rfl⟩
    go_wp2
    go_ret
    exact ⟨rfl, HS.out.no (by repeat (first | exact Fr.refl _ _ | apply Fr.drewN | apply Fr.drew | apply Fr.alloc)), (by repeat (first | exact Fr.refl _ _ | apply Fr.drewN | apply Fr.drew | apply Fr.alloc))⟩
  · have H1 := Lib.hid h1
    clear ht h1
    by_cases h2 : There l b n
    · obtain ⟨b, rfl⟩ := Int.eq_ofNat_of_zero_le h2.1
      obtain ⟨n, rfl⟩ := Int.eq_ofNat_of_zero_le h2.2.1
      have hle : b + n ≤ l.length := by unfold There at h2; omega
      clear h2
      go_enter Try.func16, Try.ntmps16
      go_wp2_with fail
      refine (part_no B g _ l a n _ HS.out H1.out).mono ?_
      rintro e w' ⟨rfl, k2, rfl⟩
      go_wp2_with fail
      refine (part_yes B g A c l b n _ (HS.out.no (Fr.drewN (Fr.refl _ w) k2)) hle).mono ?_
      rintro e w' ⟨A', rfl, _, k, rfl⟩
      go_wp2
      go_ret
      exact ⟨rfl, HS.out.no (by repeat (first | exact Fr.refl _ _ | apply Fr.drewN | apply Fr.drew | apply Fr.alloc)), (by repeat (first | exact Fr.refl _ _ | apply Fr.drewN | apply Fr.drew | apply Fr.alloc))⟩
    · have H2 := Lib.hid h2
      clear h2
      go_enter Try.func16, Try.ntmps16
      go_wp2_with fail
      refine (part_no B g _ l a n _ HS.out H1.out).mono ?_
      rintro e w' ⟨rfl, k2, rfl⟩
      go_wp2_with fail
      refine (part_no B g _ l b n _ (HS.out.no (Fr.drewN (Fr.refl _ w) k2)) H2.out).mono ?_
      rintro e w' ⟨rfl, k, rfl⟩
      go_wp2
      go_ret
      exact ⟨rfl, HS.out.no (by repeat (first | exact Fr.refl _ _ | apply Fr.drewN | apply Fr.drew | apply Fr.alloc)), (by repeat (first | exact Fr.refl _ _ | apply Fr.drewN | apply Fr.drew | apply Fr.alloc))⟩

/-- a row of which some cells are written at once -/
theorem own_setRow {w : World} {B d n c : Nat} {l l' : List Int} (cur : Array Value) (hd : w.heap[d]? = some (.cells cur 2 (0, 0))) (h : Own w B (.slice (some ⟨d, 0, none⟩) n c) l) (cur' : Array Value) (hc : cur'.size = cur.size) (hl : l'.length = l.length) (ht : cur'.toList.take l.length = ints l') :
    Own (w.setRow d cur') B (.slice (some ⟨d, 0, none⟩) n c) l' := by
  refine ⟨by rw [ints_length]; omega, ?_⟩
  rcases h.2 with ⟨h0, _⟩ | ⟨d', cap, cur0, hv, hB, hd0, hnc, hcm, hcs, htk⟩
  · cases h0
  · injection hv with h1 h2 h3
    injection h1 with h1
    injection h1 with h1 _ _
    subst h1 h2 h3
    have e : cur0 = cur := by rw [hd] at hd0; injection hd0 with hd0; injection hd0 with hd0; exact hd0.symm
    subst e
    exact .inr ⟨d, c, cur', by rw [hl], hB, setRow_heap w d _ _ _ _ hd, by omega, hcm, by omega, by rw [hl, Nat.mul_one]; exact ht⟩

set_option maxHeartbeats 3200000 in
theorem move_yes (B g : Nat) (v : Value) (l : List Int) (a b n : Nat) (w : World) (hs : M w B g v l) (ha : a + n ≤ l.length) (hb : b + n ≤ l.length) :
    Calls Try.prog 16 #[.pointer (some ⟨g, 0, none⟩), .int .i64 a, .int .i64 b, .int .i64 n] w (FillPost B g v (moveL l a b n) true w) := by
  obtain ⟨A, c, rfl, _⟩ := hs.own.slice
  have HS := Lib.hid hs
  have hlen := hs.len
  clear hs
  go_enter Try.func16, Try.ntmps16
  go_wp2_with fail
  refine (part_yes B g A c l a n _ HS.out ha).mono ?_
  rintro e w' ⟨A1, rfl, hA1, k, rfl⟩
  go_wp2_with fail
  refine (part_yes B g A c l b n _ (HS.out.no (Fr.drewN (Fr.refl _ w) k)) hb).mono ?_
  rintro e w' ⟨A2, rfl, hA2, k2, rfl⟩
  by_cases hn : n = 0
  · subst hn
    have HM : Hid (moveL l a b 0 = l) := Lib.hid (by simp [moveL])
    clear hA1 hA2
    go_wp2_with (with_reducible refine wpList_copy_nothing rfl _ _ 26 26 rfl 2 Try.underlying26 (by kernel_rfl) _ _ _ _ _ _ rfl rfl rfl ?_)
    go_ret
    exact ⟨rfl, by rw [HM.out]; exact HS.out.no (by repeat (first | exact Fr.refl _ _ | apply Fr.drewN | apply Fr.drew | apply Fr.alloc)), (by repeat (first | exact Fr.refl _ _ | apply Fr.drewN | apply Fr.drew | apply Fr.alloc))⟩
  · obtain ⟨d, rfl, rfl⟩ : ∃ d, A = some ⟨d, 0, none⟩ ∧ A1 = some ⟨d, a, none⟩ := by
      rcases hA1 with h | h
      · omega
      · exact h
    obtain rfl : A2 = some ⟨d, b, none⟩ := by
      rcases hA2 with h | ⟨d', h1, h2⟩
      · omega
      · injection h1 with h1; injection h1 with h1; subst h1; exact h2
    clear hA1 hA2
    obtain ⟨cur, hd, hcs, htk⟩ : ∃ cur, w.heap[d]? = some (.cells cur 2 (0, 0)) ∧ l.length ≤ cur.size ∧ cur.toList.take l.length = ints l := by
      rcases HS.out.own.2 with ⟨h0, _⟩ | ⟨d', cap, cur, hv, _, hd, hnc, hcm, hcs, htk⟩
      · cases h0
      · injection hv with h1 h2 h3
        injection h1 with h1
        injection h1 with h1 _ _
        subst h1
        exact ⟨cur, hd, by omega, by rw [Nat.mul_one] at htk; exact htk⟩
    have HD := Lib.hid hd
    have hcsL : (ints ((l.drop b).take n)).length = n := by rw [ints_length]; simp; omega
    have HSRC : Hid (∀ j v, (ints ((l.drop b).take n))[j]? = some v → (w.drewN (k + k2)).cell? ((⟨d, b, none⟩ : Addr).add j) = some v) := Lib.hid (fun j v hj => by
      rw [ints_eq, List.getElem?_map] at hj
      rw [Addr.add_lit]
      obtain ⟨y, hy, rfl⟩ := Option.map_eq_some_iff.1 hj
      rw [List.getElem?_take] at hy
      split at hy
      · rw [List.getElem?_drop] at hy
        obtain ⟨hlt, hy⟩ := List.getElem?_eq_some_iff.1 hy
        obtain ⟨d', c', he, x0, _, _⟩ := HS.out.own.at_ (b + j) hlt
        injection he with he
        injection he with he
        injection he with he
        subst he
        rw [hy] at x0
        exact x0
      · cases hy)
    have HL := Lib.hid hcsL
    have HD2 : Hid ((w.drewN (k + k2)).heap[d]? = some (.cells cur 2 (0, 0))) := Lib.hid hd
    have HT := Lib.hid htk
    have HF : Hid (a + (ints ((l.drop b).take n)).length ≤ cur.size) := Lib.hid (by omega)
    have HMN : Hid ((ints ((l.drop b).take n)).length = Nat.min n n) := Lib.hid (by rw [hcsL]; exact (Nat.min_self n).symm)
    clear hd hcsL htk
    go_wp2_with (with_reducible refine wpList_copy_own rfl _ _ 26 26 rfl 2 Try.underlying26 (by kernel_rfl) d a n n ⟨d, b, none⟩ n n rfl rfl cur 2 HD2.out (ints ((l.drop b).take n)) HMN.out HSRC.out HF.out (ints_one _) ?_)
    go_ret
    refine ⟨rfl, ⟨?_, ?_, HS.out.base, ?_⟩, ?_⟩
    · refine (setRow_other _ d g _ (fun h => HS.out.ne (by simp [Value.ownBlock, h]))).trans HS.out.blk
    · refine own_setRow cur HD.out HS.out.own _ ?_ (moveL_length _ _ _ _ ha hb) ?_
      · have := HL.out
        simp; omega
      · have h1 := HL.out
        have h2 := HT.out
        have h3 : cur.toList.take a = ints (l.take a) := by
          have := congrArg (List.take a) h2
          rw [List.take_take, Nat.min_eq_left (by omega), ints_take] at this
          exact this
        have h4 : (cur.toList.drop (a + n)).take (l.length - (a + n)) = ints (l.drop (a + n)) := by
          have := congrArg (List.drop (a + n)) h2
          rw [List.drop_take, ints_eq, ← List.map_drop, ← ints_eq] at this
          exact this
        have h5 : (cur.toList.take a).length = a := by rw [h3, ints_length, List.length_take]; omega
        have key : ∀ X Y Z : List Value, X.length = a → Y.length = n → (X ++ (Y ++ Z)).take l.length = X ++ (Y ++ Z.take (l.length - (a + n))) := by
          intro X Y Z hX hY
          rw [List.take_append, List.take_of_length_le (by omega), List.take_append, List.take_of_length_le (by omega), hX, hY, Nat.sub_sub]
        rw [h1]
        show List.take l.length (cur.toList.take a ++ (ints ((l.drop b).take n) ++ cur.toList.drop (a + n))) = _
        rw [key _ _ _ h5 h1, h3, h4]
        simp only [moveL, ints_append, List.append_assoc]
    · rw [moveL_length _ _ _ _ ha hb]; exact hlen
    · exact (Fr.drewN (Fr.refl _ w) (k + k2)).trans (S' := fun i => i = d) ⟨rfl, rfl, rfl, by simp, fun i _ hi => setRow_other _ d i _ hi⟩ (fun i hi => .inl (.inr (by rw [hi]; rfl)))


set_option maxHeartbeats 1600000 in
theorem all_any (B g : Nat) (v : Value) (l : List Int) (w : World) (hs : M w B g v l) :
    Calls Try.prog 11 #[.pointer (some ⟨g, 0, none⟩)] w (CopyPost l w) := by
  have c0 : w.cell? ⟨g, 1, none⟩ = some v := cell_of hs.blk 1
  have hl := hs.len
  have HR := Lib.hid hs.own.rd
  clear hs
  go_enter Try.func11, Try.ntmps11
  go_wp2_with (go_at_call 22; refine (Words.clone_any v l _ HR.out (by omega)).mono ?_; rintro e w' ⟨v', rfl, hown, hbel⟩)
  go_ret
  exact ⟨v', rfl, hown, hbel⟩

def NewPost (l : List Int) (w : World) (e : Ending) (w' : World) : Prop :=
  ∃ g v, e = .returned (.pointer (some ⟨g, 0, none⟩)) ∧ M w' w.heap.size g v l ∧ Below w.heap.size w w'

theorem clamp_any (n : Int) (hi : Int) (w : World) (h : 0 ≤ hi) :
    Calls Try.prog 21 #[.int .i64 n, .int .i64 0, .int .i64 hi] w (Quiet w (.int .i64 (max 0 (min n hi)))) := by
  by_cases h1 : n < 0
  · have e : max 0 (min n hi) = 0 := by omega
    rw [e]
    go_enter Try.func21, Try.ntmps21
    go_wp2
    go_ret
    exact ⟨rfl, 0, rfl⟩
  by_cases h2 : hi < n
  · have e : max 0 (min n hi) = hi := by omega
    rw [e]
    go_enter Try.func21, Try.ntmps21
    go_wp2
    go_ret
    exact ⟨rfl, 0, rfl⟩
  · have e : max 0 (min n hi) = n := by omega
    rw [e]
    go_enter Try.func21, Try.ntmps21
    go_wp2
    go_ret
    exact ⟨rfl, 0, rfl⟩

set_option maxHeartbeats 1600000 in
theorem new_any (n : Int) (r : Nat) (hr : max 0 (min n 2048) = (r : Int)) (w : World) :
    Calls Try.prog 8 #[.int .i64 n] w (NewPost (List.replicate r 0) w) := by
  obtain ⟨i0, hi0, hz0, hz1, hz2⟩ := info_parts infoE
  have hb : r ≤ 2048 := by omega
  have HR := Lib.hid hr
  have HB : Hid (i0.bytes * r ≤ 281474976710656) := Lib.hid (by rw [hz2]; omega)
  clear hr
  go_enter Try.func8, Try.ntmps8
  go_wp2_with (first | (go_at_call 21; refine (clamp_any n 2048 _ (by omega)).mono ?_; rintro e w' ⟨rfl, k, rfl⟩; rw [HR.out]) | (with_reducible refine wpList_make_row _ rfl _ _ 26 rfl 2 i0 (.int .i64 0) Try.underlying26 hi0 hz0 hz1 rfl .i64 .i64 r rfl rfl HB.out (by omega) ?_))
  go_ret
  have h1 := heap_alloc_new (w.drewN k) (.cells (madeCells #[Value.int .i64 0] r) 2)
  have h2 := heap2_new (w.drewN k) (.cells (madeCells #[Value.int .i64 0] r) 2) (.cells #[.bool true, .slice (some ⟨w.heap.size, 0, none⟩) r r] 41)
  refine ⟨_, .slice (some ⟨w.heap.size, 0, none⟩) r r, rfl, ⟨h2, ?_, by simp, by simpa using hb⟩, ?_⟩
  · refine ⟨by rw [ints_length, Nat.mul_one], .inr ⟨w.heap.size, r, madeCells #[Value.int .i64 0] r, by simp, Nat.le_refl _, ?_, by simp, by unfold maxLen; omega, by simp [madeCells], ?_⟩⟩
    · exact alloc_of h1 _
    · rw [toList_madeCells_one, Nat.mul_one, ints_eq]; simp
  · exact Fr.below (S := No) (by repeat (first | exact Fr.refl _ _ | apply Fr.drewN | apply Fr.drew | apply Fr.alloc)) (Nat.le_refl _) (fun _ h => h.elim)

set_option maxHeartbeats 1600000 in
theorem clone_any (B g : Nat) (v : Value) (l : List Int) (w : World) (hs : M w B g v l) :
    Calls Try.prog 17 #[.pointer (some ⟨g, 0, none⟩)] w (NewPost l w) := by
  have c0 : w.cell? ⟨g, 0, none⟩ = some (.bool true) := cell_of hs.blk 0
  have HS := Lib.hid hs
  have hl := hs.len
  clear hs
  go_enter Try.func17, Try.ntmps17
  go_wp2_with (go_at_call 11; refine (all_any B g v l _ HS.out).mono ?_; rintro e w7 ⟨v7, rfl, hown7, hb7⟩; obtain ⟨A7, c7, rfl, _⟩ := hown7.slice)
  go_ret
  exact ⟨_, _, rfl, ⟨heap_alloc_new _ _, hown7.fr (Fr.alloc (Fr.refl No _) _) (fun _ _ h => h), hb7.size, hl⟩, ((Fr.of_below hb7 No).alloc _).below (Nat.le_refl _) (fun _ h => h.elim)⟩

/-! ### nobody made it -/
/-- a memory's block, all zero -/
def Odd (w : World) (g : Nat) : Prop := w.heap[g]? = some (.cells #[.bool false, .slice none 0 0] 41 (0, 0))
theorem Odd.fr {w w' : World} {g : Nat} (h : Odd w g) (hf : Fr No w w') : Odd w' g := hf.blk h (fun h => h)
theorem part_nil (a n : Int) (w : World) : Calls Try.prog 24 #[.pointer none, .int .i64 a, .int .i64 n] w (Quiet w (.tuple #[.slice none 0 0, .bool false])) := by
  go_enter Try.func24, Try.ntmps24
  go_wp2
  go_ret2
  exact ⟨rfl, 0, rfl⟩
theorem part_odd (g : Nat) (a n : Int) (w : World) (hg : Odd w g) : Calls Try.prog 24 #[.pointer (some ⟨g, 0, none⟩), .int .i64 a, .int .i64 n] w (Quiet w (.tuple #[.slice none 0 0, .bool false])) := by
  have c0 : w.cell? ⟨g, 0, none⟩ = some (.bool false) := cell_of hg 0
  clear hg
  go_enter Try.func24, Try.ntmps24
  go_wp2
  go_ret2
  exact ⟨rfl, 0, rfl⟩

/-- a pointer to a memory that nobody made -/
def Nobody (w : World) (p : Option Addr) : Prop := p = none ∨ ∃ g, p = some ⟨g, 0, none⟩ ∧ Odd w g
theorem Nobody.fr {w w' : World} {p : Option Addr} (h : Nobody w p) (hf : Fr No w w') : Nobody w' p := by
  rcases h with h | ⟨g, h1, h2⟩
  · exact .inl h
  · exact .inr ⟨g, h1, h2.fr hf⟩
theorem part_nobody (p : Option Addr) (a n : Int) (w : World) (hp : Nobody w p) : Calls Try.prog 24 #[.pointer p, .int .i64 a, .int .i64 n] w (Quiet w (.tuple #[.slice none 0 0, .bool false])) := by
  rcases hp with rfl | ⟨g, rfl, hg⟩
  · exact part_nil a n w
  · exact part_odd g a n w hg
theorem fill_nobody (p : Option Addr) (a n x : Int) (w : World) (hp : Nobody w p) : Calls Try.prog 19 #[.pointer p, .int .i64 a, .int .i64 n, .int .i64 x] w (Quiet w (.bool false)) := by
  have HP := Lib.hid hp
  clear hp
  go_enter Try.func19, Try.ntmps19
  go_wp2_with (go_at_call 24; refine (part_nobody p a n _ HP.out).mono ?_; rintro e w' ⟨rfl, k, rfl⟩)
  go_loopw [21] (fun i wr => i = .int .i64 0 ∧ wr = w.drewN k) (fun _ _ => 0)
  case atStart => exact ⟨rfl, rfl⟩
  case round =>
    obtain ⟨rfl, rfl⟩ := hrel
    go_wp2
    go_ret
    exact ⟨rfl, k, rfl⟩
theorem store_nobody (p : Option Addr) (a x : Int) (w : World) (hp : Nobody w p) : Calls Try.prog 14 #[.pointer p, .int .i64 a, .int .i64 x] w (Quiet w (.bool false)) := by
  have HP := Lib.hid hp
  clear hp
  go_enter Try.func14, Try.ntmps14
  go_wp2_with (go_at_call 19; refine (fill_nobody p a 1 x _ HP.out).mono ?_; rintro e w' ⟨rfl, k, rfl⟩)
  go_ret
  exact ⟨rfl, k, rfl⟩
theorem load_nobody (p : Option Addr) (a : Int) (w : World) (hp : Nobody w p) : Calls Try.prog 18 #[.pointer p, .int .i64 a] w (Quiet w (.tuple #[.int .i64 0, .bool false])) := by
  have HP := Lib.hid hp
  clear hp
  go_enter Try.func18, Try.ntmps18
  go_wp2_with (go_at_call 24; refine (part_nobody p a 1 _ HP.out).mono ?_; rintro e w' ⟨rfl, k, rfl⟩)
  go_ret2
  exact ⟨rfl, k, rfl⟩
theorem move_nobody (p : Option Addr) (a b n : Int) (w : World) (hp : Nobody w p) : Calls Try.prog 16 #[.pointer p, .int .i64 a, .int .i64 b, .int .i64 n] w (Quiet w (.bool false)) := by
  have HP := Lib.hid hp
  clear hp
  go_enter Try.func16, Try.ntmps16
  go_wp2_with fail
  refine (part_nobody p a n _ HP.out).mono ?_
  rintro e w' ⟨rfl, k, rfl⟩
  go_wp2_with fail
  refine (part_nobody p b n _ (HP.out.fr (Fr.drewN (Fr.refl _ w) k))).mono ?_
  rintro e w' ⟨rfl, k2, rfl⟩
  go_wp2
  go_ret
  exact ⟨rfl, k + k2, rfl⟩
theorem len_nobody (p : Option Addr) (w : World) (hp : Nobody w p) : Calls Try.prog 20 #[.pointer p] w (Quiet w (.int .i64 0)) := by
  rcases hp with rfl | ⟨g, rfl, hg⟩
  · go_enter Try.func20, Try.ntmps20
    go_wp2
    go_ret
    exact ⟨rfl, 0, rfl⟩
  · have c1 : w.cell? ⟨g, 1, none⟩ = some (.slice none 0 0) := cell_of hg 1
    clear hg
    go_enter Try.func20, Try.ntmps20
    go_wp2
    go_ret
    exact ⟨rfl, 0, rfl⟩
theorem all_nobody (p : Option Addr) (w : World) (hp : Nobody w p) : Calls Try.prog 11 #[.pointer p] w (CopyPost [] w) := by
  rcases hp with rfl | ⟨g, rfl, hg⟩
  · go_enter Try.func11, Try.ntmps11
    go_wp2
    go_ret
    exact ⟨_, rfl, Own.nil _ _, Below.refl _ _⟩
  · have c1 : w.cell? ⟨g, 1, none⟩ = some (.slice none 0 0) := cell_of hg 1
    clear hg
    go_enter Try.func11, Try.ntmps11
    go_wp2_with (go_at_call 22; refine (Words.clone_any _ [] _ (Own.nil _ 0).rd (by simp)).mono ?_; rintro e w' ⟨v', rfl, hown, hbel⟩)
    go_ret
    exact ⟨v', rfl, hown, hbel⟩
theorem clone_nobody (p : Option Addr) (w : World) (hp : Nobody w p) : Calls Try.prog 17 #[.pointer p] w (Quiet w (.pointer none)) := by
  rcases hp with rfl | ⟨g, rfl, hg⟩
  · go_enter Try.func17, Try.ntmps17
    go_wp2
    go_ret
    exact ⟨rfl, 0, rfl⟩
  · have c0 : w.cell? ⟨g, 0, none⟩ = some (.bool false) := cell_of hg 0
    clear hg
    go_enter Try.func17, Try.ntmps17
    go_wp2
    go_ret
    exact ⟨rfl, 0, rfl⟩

end Go.Proofs.Yticlhahjgiaieaa.Mem
