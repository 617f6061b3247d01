/- Proved: what the calls Store, Load, Len, Move, All, Clone and New of package mem do and answer; and what memories that nobody made tell. -/
import Derived.Test.YtbndmcblkfaheaaMem
import Derived.Deep.OwnRows
import Derived.Laws.CopyOwn
namespace Go.Proofs.Ytbndmcblkfaheaa.Mem
open Go.RowKit Go.Proofs.Ytbndmcblkfaheaa.H Go.Proofs.Ytbndmcblkfaheaa.Words

theorem fillL_one (l : List Int) (a : Nat) (x : Int) (h : a < l.length) : fillL l a 1 x = l.set a x := by
  have h2 := fillL_succ l a 0 x (by omega)
  rw [fillL_zero] at h2
  exact h2.symm

set_option maxHeartbeats 1600000 in
theorem store_no (B g : Nat) (v : Value) (l : List Int) (a x : Int) (w : World) (hs : M w B g v l) (ht : ¬ There l a 1) :
    Calls Try.prog 14 #[.pointer (some ⟨g, 0, none⟩), .int .i64 a, .int .i64 x] w (FillPost B g v l false w) := by
  have HS := Lib.hid hs
  have HT := Lib.hid ht
  clear hs ht
  go_enter Try.func14, Try.ntmps14
  go_wp2_with (go_at_call 19; refine (fill_no B g v l a 1 x _ HS.out HT.out).mono ?_; rintro e w' ⟨rfl, h1, h2⟩)
  go_ret
  exact ⟨rfl, h1, h2⟩

set_option maxHeartbeats 1600000 in
theorem store_yes (B g : Nat) (v : Value) (l : List Int) (a : Nat) (x : Int) (w : World) (hs : M w B g v l) (ht : a < l.length) :
    Calls Try.prog 14 #[.pointer (some ⟨g, 0, none⟩), .int .i64 a, .int .i64 x] w (FillPost B g v (l.set a x) true w) := by
  have HS := Lib.hid hs
  have HE := Lib.hid (fillL_one l a x ht)
  clear hs
  go_enter Try.func14, Try.ntmps14
  go_wp2_with fail
  have HC := fill_yes B g v l a 1 x w HS.out (by omega)
  refine HC.mono ?_
  rintro e w' ⟨rfl, h1, h2⟩
  rw [HE.out] at h1
  clear HC
  go_wp2
  go_ret
  exact ⟨rfl, h1, h2⟩

set_option maxHeartbeats 1600000 in
theorem load_no (B g : Nat) (v : Value) (l : List Int) (a : Int) (w : World) (hs : M w B g v l) (ht : ¬ There l a 1) :
    Calls Try.prog 25 #[.pointer (some ⟨g, 0, none⟩), .int .i64 a] w (Quiet w (.tuple #[.int .i64 0, .bool false])) := by
  have HS := Lib.hid hs
  have HT := Lib.hid ht
  clear hs ht
  go_enter Try.func25, Try.ntmps25
  go_wp2_with (go_at_call 34; refine (part_no B g v l a 1 _ HS.out HT.out).mono ?_; rintro e w' ⟨rfl, k, rfl⟩)
  go_ret2
  exact ⟨rfl, k, rfl⟩

set_option maxHeartbeats 1600000 in
theorem load_yes (B g : Nat) (v : Value) (l : List Int) (a : Nat) (x : Int) (w : World) (hs : M w B g v l) (hx : l[a]? = some x) :
    Calls Try.prog 25 #[.pointer (some ⟨g, 0, none⟩), .int .i64 a] w (Quiet w (.tuple #[.int .i64 x, .bool true])) := by
  obtain ⟨ht, hx⟩ := List.getElem?_eq_some_iff.1 hx
  obtain ⟨A, c, rfl, _⟩ := hs.own.slice
  obtain ⟨d, c', he, x0, _, _⟩ := hs.own.at_ a ht
  injection he with he _ he3
  subst he he3
  rw [hx] at x0
  have HS := Lib.hid hs
  clear hs hx
  go_enter Try.func25, Try.ntmps25
  go_wp2_with fail
  have HC := part_yes B g (some ⟨d, 0, none⟩) c l a 1 w HS.out (by omega)
  refine HC.mono ?_
  rintro e w' ⟨A', rfl, hA, k, rfl⟩
  clear HC
  obtain rfl : A' = some ⟨d, a, none⟩ := by
    rcases hA with h | ⟨d', h1, h2⟩
    · omega
    · injection h1 with h1; injection h1 with h1; subst h1; exact h2
  clear hA
  go_wp2
  go_ret2
  exact ⟨rfl, k, rfl⟩

set_option maxHeartbeats 1600000 in
theorem len_any (B g : Nat) (v : Value) (l : List Int) (w : World) (hs : M w B g v l) :
    Calls Try.prog 36 #[.pointer (some ⟨g, 0, none⟩)] w (Quiet w (.int .i64 l.length)) := by
  obtain ⟨A, c, rfl, _⟩ := hs.own.slice
  have c1 : w.cell? ⟨g, 1, none⟩ = some (.slice A l.length c) := cell_of hs.blk 1
  clear hs
  go_enter Try.func36, Try.ntmps36
  go_wp2
  go_ret
  exact ⟨rfl, 0, rfl⟩

/-- some words become others -/
def moveL (l : List Int) (q f n : Nat) : List Int := l.take q ++ (l.drop f).take n ++ l.drop (q + n)

theorem moveL_length (l : List Int) (q f n : Nat) (h : q + n ≤ l.length) (h2 : f + n ≤ l.length) : (moveL l q f n).length = l.length := by simp [moveL]; omega

/-- a row of which some cells are written at once -/

theorem own_setRow {w : World} {B d n c : Nat} {l l' : List Int} (cur : Array Value) (hd : w.heap[d]? = some (.cells cur 2 (0, 0))) (h : Own w B (.slice (some ⟨d, 0, none⟩) n c) l) (cur' : Array Value) (hc : cur'.size = cur.size) (hl : l'.length = l.length) (ht : cur'.toList.take l.length = ints l') :
    Own (w.setRow d cur') B (.slice (some ⟨d, 0, none⟩) n c) l' := by
  refine ⟨by rw [ints_length]; omega, ?_⟩
  rcases h.2 with ⟨h0, _⟩ | ⟨d', cap, cur0, hv, hB, hd0, hnc, hcm, hcs, htk⟩
  · cases h0
  · injection hv with h1 h2 h3
    injection h1 with h1
    injection h1 with h1 _ _
    subst h1 h2 h3
    have e : cur0 = cur := by rw [hd] at hd0; injection hd0 with hd0; injection hd0 with hd0; exact hd0.symm
    subst e
    exact .inr ⟨d, c, cur', by rw [hl], hB, setRow_heap w d _ _ _ _ hd, by omega, hcm, by omega, by rw [hl, Nat.mul_one]; exact ht⟩

set_option maxHeartbeats 1600000 in
theorem all_any (B g : Nat) (v : Value) (l : List Int) (w : World) (hs : M w B g v l) :
    Calls Try.prog 20 #[.pointer (some ⟨g, 0, none⟩)] w (CopyPost l w) := by
  have c0 : w.cell? ⟨g, 1, none⟩ = some v := cell_of hs.blk 1
  have hl := hs.len
  have HR := Lib.hid hs.own.rd
  clear hs
  go_enter Try.func20, Try.ntmps20
  go_wp2_with (go_at_call 35; refine (Words.clone_any v l _ HR.out (by omega)).mono ?_; rintro e w' ⟨v', rfl, hown, hbel⟩)
  go_ret
  exact ⟨v', rfl, hown, hbel⟩

def NewPost (l : List Int) (w : World) (e : Ending) (w' : World) : Prop :=
  ∃ g v, e = .returned (.pointer (some ⟨g, 0, none⟩)) ∧ M w' w.heap.size g v l ∧ Below w.heap.size w w'

theorem clamp_any (n : Int) (hi : Int) (w : World) (h : 0 ≤ hi) :
    Calls Try.prog 26 #[.int .i64 n, .int .i64 0, .int .i64 hi] w (Quiet w (.int .i64 (max 0 (min n hi)))) := by
  by_cases h1 : n < 0
  · have e : max 0 (min n hi) = 0 := by omega
    rw [e]
    go_enter Try.func26, Try.ntmps26
    go_wp2
    go_ret
    exact ⟨rfl, 0, rfl⟩
  by_cases h2 : hi < n
  · have e : max 0 (min n hi) = hi := by omega
    rw [e]
    go_enter Try.func26, Try.ntmps26
    go_wp2
    go_ret
    exact ⟨rfl, 0, rfl⟩
  · have e : max 0 (min n hi) = n := by omega
    rw [e]
    go_enter Try.func26, Try.ntmps26
    go_wp2
    go_ret
    exact ⟨rfl, 0, rfl⟩

set_option maxHeartbeats 1600000 in
theorem new_any (n : Int) (r : Nat) (hr : max 0 (min n 2048) = (r : Int)) (w : World) :
    Calls Try.prog 9 #[.int .i64 n] w (NewPost (List.replicate r 0) w) := by
  obtain ⟨i0, hi0, hz0, hz1, hz2⟩ := info_parts infoE
  have hb : r ≤ 2048 := by omega
  have HR := Lib.hid hr
  have HB : Hid (i0.bytes * r ≤ 281474976710656) := Lib.hid (by rw [hz2]; omega)
  clear hr
  go_enter Try.func9, Try.ntmps9
  go_wp2_with (first | (go_at_call 26; refine (clamp_any n 2048 _ (by omega)).mono ?_; rintro e w' ⟨rfl, k, rfl⟩; rw [HR.out]) | (with_reducible refine wpList_make_row _ rfl _ _ 48 rfl 2 i0 (.int .i64 0) Try.underlying48 hi0 hz0 hz1 rfl .i64 .i64 r rfl rfl HB.out (by omega) ?_))
  go_ret
  have h1 := heap_alloc_new (w.drewN k) (.cells (madeCells #[Value.int .i64 0] r) 2)
  have h2 := heap2_new (w.drewN k) (.cells (madeCells #[Value.int .i64 0] r) 2) (.cells #[.bool true, .slice (some ⟨w.heap.size, 0, none⟩) r r] 58)
  refine ⟨_, .slice (some ⟨w.heap.size, 0, none⟩) r r, rfl, ⟨h2, ?_, by simp, by simpa using hb⟩, ?_⟩
  · refine ⟨by rw [ints_length, Nat.mul_one], .inr ⟨w.heap.size, r, madeCells #[Value.int .i64 0] r, by simp, Nat.le_refl _, ?_, by simp, by unfold maxLen; omega, by simp [madeCells], ?_⟩⟩
    · exact alloc_of h1 _
    · rw [toList_madeCells_one, Nat.mul_one, ints_eq]; simp
  · exact Fr.below (S := No) (by repeat (first | exact Fr.refl _ _ | apply Fr.drewN | apply Fr.drew | apply Fr.alloc)) (Nat.le_refl _) (fun _ h => h.elim)

/-! ### nobody made it -/
/-- a memory's block, all zero -/
def Odd (w : World) (g : Nat) : Prop := w.heap[g]? = some (.cells #[.bool false, .slice none 0 0] 58 (0, 0))

theorem Odd.fr {w w' : World} {g : Nat} (h : Odd w g) (hf : Fr No w w') : Odd w' g := hf.blk h (fun h => h)

theorem part_nil (a n : Int) (w : World) : Calls Try.prog 34 #[.pointer none, .int .i64 a, .int .i64 n] w (Quiet w (.tuple #[.slice none 0 0, .bool false])) := by
  go_enter Try.func34, Try.ntmps34
  go_wp2
  go_ret2
  exact ⟨rfl, 0, rfl⟩

theorem part_odd (g : Nat) (a n : Int) (w : World) (hg : Odd w g) : Calls Try.prog 34 #[.pointer (some ⟨g, 0, none⟩), .int .i64 a, .int .i64 n] w (Quiet w (.tuple #[.slice none 0 0, .bool false])) := by
  have c0 : w.cell? ⟨g, 0, none⟩ = some (.bool false) := cell_of hg 0
  clear hg
  go_enter Try.func34, Try.ntmps34
  go_wp2
  go_ret2
  exact ⟨rfl, 0, rfl⟩

/-- a pointer to a memory that nobody made -/
def Nobody (w : World) (p : Option Addr) : Prop := p = none ∨ ∃ g, p = some ⟨g, 0, none⟩ ∧ Odd w g

theorem Nobody.fr {w w' : World} {p : Option Addr} (h : Nobody w p) (hf : Fr No w w') : Nobody w' p := by
  rcases h with h | ⟨g, h1, h2⟩
  · exact .inl h
  · exact .inr ⟨g, h1, h2.fr hf⟩

theorem part_nobody (p : Option Addr) (a n : Int) (w : World) (hp : Nobody w p) : Calls Try.prog 34 #[.pointer p, .int .i64 a, .int .i64 n] w (Quiet w (.tuple #[.slice none 0 0, .bool false])) := by
  rcases hp with rfl | ⟨g, rfl, hg⟩
  · exact part_nil a n w
  · exact part_odd g a n w hg

theorem fill_nobody (p : Option Addr) (a n x : Int) (w : World) (hp : Nobody w p) : Calls Try.prog 19 #[.pointer p, .int .i64 a, .int .i64 n, .int .i64 x] w (Quiet w (.bool false)) := by
  have HP := Lib.hid hp
  clear hp
  go_enter Try.func19, Try.ntmps19
  go_wp2_with (go_at_call 34; refine (part_nobody p a n _ HP.out).mono ?_; rintro e w' ⟨rfl, k, rfl⟩)
  go_loopw [21] (fun i wr => i = .int .i64 0 ∧ wr = w.drewN k) (fun _ _ => 0)
  case atStart => exact ⟨rfl, rfl⟩
  case round =>
    obtain ⟨rfl, rfl⟩ := hrel
    go_wp2
    go_ret
    exact ⟨rfl, k, rfl⟩

theorem store_nobody (p : Option Addr) (a x : Int) (w : World) (hp : Nobody w p) : Calls Try.prog 14 #[.pointer p, .int .i64 a, .int .i64 x] w (Quiet w (.bool false)) := by
  have HP := Lib.hid hp
  clear hp
  go_enter Try.func14, Try.ntmps14
  go_wp2_with (go_at_call 19; refine (fill_nobody p a 1 x _ HP.out).mono ?_; rintro e w' ⟨rfl, k, rfl⟩)
  go_ret
  exact ⟨rfl, k, rfl⟩

theorem load_nobody (p : Option Addr) (a : Int) (w : World) (hp : Nobody w p) : Calls Try.prog 25 #[.pointer p, .int .i64 a] w (Quiet w (.tuple #[.int .i64 0, .bool false])) := by
  have HP := Lib.hid hp
  clear hp
  go_enter Try.func25, Try.ntmps25
  go_wp2_with (go_at_call 34; refine (part_nobody p a 1 _ HP.out).mono ?_; rintro e w' ⟨rfl, k, rfl⟩)
  go_ret2
  exact ⟨rfl, k, rfl⟩

theorem len_nobody (p : Option Addr) (w : World) (hp : Nobody w p) : Calls Try.prog 36 #[.pointer p] w (Quiet w (.int .i64 0)) := by
  rcases hp with rfl | ⟨g, rfl, hg⟩
  · go_enter Try.func36, Try.ntmps36
    go_wp2
    go_ret
    exact ⟨rfl, 0, rfl⟩
  · have c1 : w.cell? ⟨g, 1, none⟩ = some (.slice none 0 0) := cell_of hg 1
    clear hg
    go_enter Try.func36, Try.ntmps36
    go_wp2
    go_ret
    exact ⟨rfl, 0, rfl⟩

theorem all_nobody (p : Option Addr) (w : World) (hp : Nobody w p) : Calls Try.prog 20 #[.pointer p] w (CopyPost [] w) := by
  rcases hp with rfl | ⟨g, rfl, hg⟩
  · go_enter Try.func20, Try.ntmps20
    go_wp2
    go_ret
    exact ⟨_, rfl, Own.nil _ _, Below.refl _ _⟩
  · have c1 : w.cell? ⟨g, 1, none⟩ = some (.slice none 0 0) := cell_of hg 1
    clear hg
    go_enter Try.func20, Try.ntmps20
    go_wp2_with (go_at_call 35; refine (Words.clone_any _ [] _ (Own.nil _ 0).rd (by simp)).mono ?_; rintro e w' ⟨v', rfl, hown, hbel⟩)
    go_ret
    exact ⟨v', rfl, hown, hbel⟩

end Go.Proofs.Ytbndmcblkfaheaa.Mem
