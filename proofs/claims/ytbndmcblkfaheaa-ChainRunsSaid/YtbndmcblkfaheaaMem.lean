/- Proved: what each call of package mem does to the words of a memory and answers (the calls' contracts); the conditions stand in each theorem. -/
import Derived.Test.YtbndmcblkfaheaaWords
namespace Go.Proofs.Ytbndmcblkfaheaa.Mem
open Go.RowKit Go.Proofs.Ytbndmcblkfaheaa.H Go.Proofs.Ytbndmcblkfaheaa.Words

/-- a memory: its own block g, and the row v in which its words lie -/
structure M (w : World) (B g : Nat) (v : Value) (l : List Int) : Prop where
  blk : w.heap[g]? = some (.cells #[.bool true, v] 58 (0, 0))
  own : Own w B v l
  base : B ≤ g
  len : l.length ≤ 2048

def Foot (g : Nat) (v : Value) : Nat → Prop := fun k => k = g ∨ v.ownBlock = some k
theorem M.ne {w : World} {B g : Nat} {v : Value} {l : List Int} (h : M w B g v l) : v.ownBlock ≠ some g := own_ne_blk h.own h.blk (by decide)
theorem M.foot_lt {w : World} {B g : Nat} {v : Value} {l : List Int} (h : M w B g v l) : ∀ k, Foot g v k → B ≤ k ∧ k < w.heap.size := by
  rintro k (rfl | hk)
  · exact ⟨h.base, lt_of_blk h.blk⟩
  · exact h.own.lt k hk
theorem M.fr {w w' : World} {B g : Nat} {v : Value} {l : List Int} (h : M w B g v l) {S : Nat → Prop} (hf : Fr S w w') (hn : ∀ k, Foot g v k → ¬ S k) : M w' B g v l :=
  ⟨hf.blk h.blk (hn g (.inl rfl)), h.own.fr hf (fun k hk => hn k (.inr hk)), h.base, h.len⟩
theorem M.no {w w' : World} {B g : Nat} {v : Value} {l : List Int} (h : M w B g v l) (hf : Fr No w w') : M w' B g v l := h.fr hf (fun _ _ h => h)
theorem M.below {w w' : World} {B g : Nat} {v : Value} {l : List Int} (h : M w B g v l) (hf : Fr (Foot g v) w w') (hB : B ≤ w.heap.size) : Below B w w' :=
  hf.below hB (fun k hk => (h.foot_lt k hk).1)
theorem M.lower {w : World} {B B' g : Nat} {v : Value} {l : List Int} (h : M w B g v l) (hB : B' ≤ B) : M w B' g v l := ⟨h.blk, h.own.lower hB, Nat.le_trans hB h.base, h.len⟩

/-! ### part -/
def There (l : List Int) (a n : Int) : Prop := 0 ≤ a ∧ 0 ≤ n ∧ a ≤ l.length ∧ n ≤ (l.length : Int) - a
instance (l : List Int) (a n : Int) : Decidable (There l a n) := by unfold There; infer_instance

theorem part_no (B g : Nat) (v : Value) (l : List Int) (a n : Int) (w : World) (hs : M w B g v l) (ht : ¬ There l a n) :
    Calls Try.prog 34 #[.pointer (some ⟨g, 0, none⟩), .int .i64 a, .int .i64 n] w (Quiet w (.tuple #[.slice none 0 0, .bool false])) := by
  obtain ⟨A, c, rfl, _⟩ := hs.own.slice
  have c0 : w.cell? ⟨g, 0, none⟩ = some (.bool true) := cell_of hs.blk 0
  have c1 : w.cell? ⟨g, 1, none⟩ = some (.slice A l.length c) := cell_of hs.blk 1
  have hlen := hs.len
  clear hs
  by_cases h1 : a < 0
  · clear ht hlen
    go_enter Try.func34, Try.ntmps34
    go_wp2
    go_ret2
    exact ⟨rfl, 0, rfl⟩
  by_cases h2 : n < 0
  · clear ht hlen
    go_enter Try.func34, Try.ntmps34
    go_wp2
    go_ret2
    exact ⟨rfl, 0, rfl⟩
  by_cases h3 : (l.length : Int) < a
  · clear ht hlen
    go_enter Try.func34, Try.ntmps34
    go_wp2
    go_ret2
    exact ⟨rfl, 0, rfl⟩
  · have h4 : (l.length : Int) - a < n := by unfold There at ht; omega
    have h1 : 0 ≤ a := by omega
    have h2 : 0 ≤ n := by omega
    have h3 : a ≤ (l.length : Int) := by omega
    clear ht
    go_enter Try.func34, Try.ntmps34
    go_wp2
    go_ret2
    exact ⟨rfl, 0, rfl⟩

/-- where some words lie: nowhere, if there are none; else in block d, from a on -/
def PartAt (A A' : Option Addr) (a n : Nat) : Prop := n = 0 ∨ ∃ d, A = some ⟨d, 0, none⟩ ∧ A' = some ⟨d, a, none⟩
def PartPost (A : Option Addr) (a n : Nat) (w : World) (e : Ending) (w' : World) : Prop :=
  ∃ A', e = .returned (.tuple #[.slice A' n n, .bool true]) ∧ PartAt A A' a n ∧ ∃ k, w' = w.drewN k

theorem part_yes (B g : Nat) (A : Option Addr) (c : Nat) (l : List Int) (a n : Nat) (w : World) (hs : M w B g (.slice A l.length c) l) (ht : a + n ≤ l.length) :
    Calls Try.prog 34 #[.pointer (some ⟨g, 0, none⟩), .int .i64 a, .int .i64 n] w (PartPost A a n w) := by
  obtain ⟨A1, c1, he, hc⟩ := hs.own.slice
  injection he with he1 _ he3
  subst he1 he3
  have c0 : w.cell? ⟨g, 0, none⟩ = some (.bool true) := cell_of hs.blk 0
  have c1 : w.cell? ⟨g, 1, none⟩ = some (.slice A l.length c) := cell_of hs.blk 1
  have hlen := hs.len
  have h1 : (0 : Int) ≤ (a : Int) := by omega
  have h2 : (0 : Int) ≤ (n : Int) := by omega
  have h3 : (a : Int) ≤ (l.length : Int) := by omega
  have h4 : (n : Int) ≤ (l.length : Int) - a := by omega
  have h5 : (a : Int) + n ≤ (c : Int) := by omega
  have HP : Hid (0 < n → ∃ d, A = some ⟨d, 0, none⟩) := Lib.hid (fun hn => by
    obtain ⟨d, c2, he2, _⟩ := hs.own.at_ 0 (by omega)
    injection he2 with he2
    exact ⟨d, he2⟩)
  clear hs
  go_enter Try.func34, Try.ntmps34
  go_wp2
  · go_ret2
    exact ⟨_, rfl, .inl rfl, 0, rfl⟩
  · go_ret2
    obtain ⟨d, rfl⟩ := HP.out (by omega)
    exact ⟨_, rfl, .inr ⟨d, rfl, by simp [Addr.add_lit]⟩, 0, rfl⟩

/-! ### Fill, Store -/
/-- some words become one number -/
def fillL (l : List Int) (a n : Nat) (x : Int) : List Int := l.take a ++ List.replicate n x ++ l.drop (a + n)
theorem fillL_length (l : List Int) (a n : Nat) (x : Int) (h : a + n ≤ l.length) : (fillL l a n x).length = l.length := by simp [fillL]; omega
theorem fillL_zero (l : List Int) (a : Nat) (x : Int) : fillL l a 0 x = l := by simp [fillL]
theorem fillL_succ (l : List Int) (a n : Nat) (x : Int) (h : a + n < l.length) : (fillL l a n x).set (a + n) x = fillL l a (n + 1) x := by
  have h1 : (l.take a ++ List.replicate n x).length = a + n := by simp; omega
  unfold fillL
  rw [List.set_append_right _ _ (by omega), h1, Nat.sub_self, List.drop_eq_getElem_cons h, List.set_cons_zero, List.replicate_succ', List.append_assoc, List.append_assoc, List.append_assoc]
  rfl

def FillPost (B g : Nat) (v : Value) (l' : List Int) (r : Bool) (w : World) (e : Ending) (w' : World) : Prop :=
  e = .returned (.bool r) ∧ M w' B g v l' ∧ Fr (Foot g v) w w'

set_option maxRecDepth 100000 in
set_option maxHeartbeats 3200000 in
theorem fill_no (B g : Nat) (v : Value) (l : List Int) (a n x : Int) (w : World) (hs : M w B g v l) (ht : ¬ There l a n) :
    Calls Try.prog 19 #[.pointer (some ⟨g, 0, none⟩), .int .i64 a, .int .i64 n, .int .i64 x] w (FillPost B g v l false w) := by
  have HS := Lib.hid hs
  have HT := Lib.hid ht
  clear hs ht
  go_enter Try.func19, Try.ntmps19
  go_wp2_with (go_at_call 34; refine (part_no B g v l a n _ HS.out HT.out).mono ?_; rintro e w' ⟨rfl, k, rfl⟩)
  go_loopw [21] (fun i wr => i = .int .i64 0 ∧ wr = w.drewN k) (fun _ _ => 0)
  case atStart => exact ⟨rfl, rfl⟩
  case round =>
    obtain ⟨rfl, rfl⟩ := hrel
    go_wp2
    go_ret
    exact ⟨rfl, HS.out.no (Fr.drewN (Fr.refl _ w) k), Fr.drewN (Fr.refl _ w) k⟩

set_option maxRecDepth 100000 in
set_option maxHeartbeats 3200000 in
theorem fill_yes (B g : Nat) (v : Value) (l : List Int) (a n : Nat) (x : Int) (w : World) (hs : M w B g v l) (ht : a + n ≤ l.length) :
    Calls Try.prog 19 #[.pointer (some ⟨g, 0, none⟩), .int .i64 a, .int .i64 n, .int .i64 x] w (FillPost B g v (fillL l a n x) true w) := by
  obtain ⟨A, c, rfl, _⟩ := hs.own.slice
  have HS := Lib.hid hs
  have hlen := hs.len
  clear hs
  go_enter Try.func19, Try.ntmps19
  go_wp2_with (go_at_call 34; refine (part_yes B g A c l a n _ HS.out ht).mono ?_; rintro e w' ⟨A', rfl, hA, k, rfl⟩)
  go_loopw [21] (fun i wr => ∃ j : Nat, j ≤ n ∧ i = .int .i64 j ∧ Hid (M wr B g (.slice A l.length c) (fillL l a j x) ∧ Fr (Foot g (.slice A l.length c)) w wr)) (fun i _ => n - (intOf i).toNat)
  case atStart => exact ⟨0, Nat.zero_le _, rfl, Lib.hid ⟨by rw [fillL_zero]; exact HS.out.no (Fr.drewN (Fr.refl _ w) k), Fr.drewN (Fr.refl _ w) k⟩⟩
  case round =>
    obtain ⟨j, hj, rfl, HK⟩ := hrel
    by_cases hlt : j < n
    · obtain ⟨d, rfl, rfl⟩ : ∃ d, A = some ⟨d, 0, none⟩ ∧ A' = some ⟨d, a, none⟩ := by
        rcases hA with h | h
        · omega
        · exact h
      have hfl : (fillL l a j x).length = l.length := fillL_length _ _ _ _ (by omega)
      obtain ⟨d', c', he, x0, f0, hd⟩ := HK.out.1.own.at_ (a + j) (by omega)
      obtain ⟨y, x0⟩ : ∃ y, wr.cell? ⟨d', a + j, none⟩ = some (.int .i64 y) := ⟨_, x0⟩
      injection he with he _ _
      injection he with he
      injection he with he _ _
      subst he
      rename_i x0_
      clear x0_ hfl hA
      go_wp2
      go_roundw
      case rel =>
        refine ⟨j + 1, by omega, by go_num, Lib.hid ⟨?_, ?_⟩⟩
        · have hm := HK.out.1
          refine ⟨far_of hm.blk (p := ⟨d, a + j, none⟩) (fun h => hm.ne (by simp [Value.ownBlock, h])) _, ?_, hm.base, by rw [fillL_length _ _ _ _ (by omega)]; exact hlen⟩
          have h2 := hm.own.put (a + j) x
          rw [fillL_succ _ _ _ _ (by omega)] at h2
          exact h2
        · exact HK.out.2.setCell (p := ⟨d, a + j, none⟩) (.inl (.inr rfl)) _
      case measure => simp [intOf]; omega
    · obtain rfl : j = n := by omega
      clear hj hA
      go_wp2
      go_ret
      exact ⟨rfl, HK.out.1, HK.out.2⟩

end Go.Proofs.Ytbndmcblkfaheaa.Mem
