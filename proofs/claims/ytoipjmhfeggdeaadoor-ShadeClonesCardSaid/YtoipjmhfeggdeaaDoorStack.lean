/- Proved: what each call of package stack does to a stack in memory and answers (the calls' contracts); the conditions stand in each theorem. -/
import Derived.Test.YtoipjmhfeggdeaaDoorProg
import Derived.Test.YtoipjmhfeggdeaaDoorHeap
import Derived.WalkSpells
import Derived.KernelRfl
import Derived.StillTactics
import Derived.Laws.Pointers
import Derived.Deep.RegionHeld3
import Derived.Deep.RegionLaw
import Derived.Deep.QuietTactic
import Derived.BigQuiet
namespace Go.Proofs.YtoipjmhfeggdeaaDoor.Stack
open Go.RowKit Go.Proofs.YtoipjmhfeggdeaaDoor.H

theorem infoE : (Tryd.prog.info? 41).map (fun i => (i.zero, i.size, i.bytes)) = some (some (.agg #[.int .i64 0, .int .i64 0]), 2, 16) := by kernel_rfl

def ents (l : List (Int × Int)) : List Value := l.flatMap fun p => [.int .i64 p.1, .int .i64 p.2]
theorem ents_snoc (l : List (Int × Int)) (a b : Int) : ents (l ++ [(a, b)]) = ents l ++ [.int .i64 a, .int .i64 b] := by simp [ents]
theorem ents_length (l : List (Int × Int)) : (ents l).length = l.length * 2 := by
  induction l with
  | nil => rfl
  | cons p l ih => simp only [ents, List.flatMap_cons, List.length_append, List.length_cons, List.length_nil] at ih ⊢; omega

theorem ents_at (l : List (Int × Int)) (k : Nat) (h : k < l.length) : (ents l)[k * 2]? = some (.int .i64 (l[k]).1) ∧ (ents l)[k * 2 + 1]? = some (.int .i64 (l[k]).2) := by
  induction l generalizing k with
  | nil => simp at h
  | cons p l ih =>
    cases k with
    | zero => simp [ents]
    | succ k =>
      have h2 := ih k (by simpa using h)
      have e : ents (p :: l) = .int .i64 p.1 :: .int .i64 p.2 :: ents l := by simp [ents]
      rw [e, show (k + 1) * 2 = k * 2 + 1 + 1 by omega]
      simpa using h2
theorem ents_take (l : List (Int × Int)) (m : Nat) : (ents l).take (m * 2) = ents (l.take m) := by
  induction l generalizing m with
  | nil => simp [ents]
  | cons p l ih =>
    cases m with
    | zero => simp [ents]
    | succ m =>
      have e : ents (p :: l) = .int .i64 p.1 :: .int .i64 p.2 :: ents l := by simp [ents]
      rw [e, show (m + 1) * 2 = m * 2 + 1 + 1 by omega, List.take_succ_cons, List.take_succ_cons, ih, List.take_succ_cons]
      simp [ents]
/-- an element of a row of entries -/
theorem rd_at {w : World} {A : Option Addr} {c : Nat} {l : List (Int × Int)} (h : Rd w (.slice A l.length c) l.length 2 (ents l)) (k : Nat) (hk : k < l.length) :
    ∃ ad, A = some ad ∧ w.cell? (ad.add (k * 2)) = some (.int .i64 (l[k]).1) ∧ w.cell? ⟨(ad.add (k * 2)).block, (ad.add (k * 2)).off + 1, none⟩ = some (.int .i64 (l[k]).2) := by
  rcases h.at_ with ⟨_, h0⟩ | ⟨ad, c', he, _, hc⟩
  · omega
  · injection he with he _ _
    exact ⟨ad, he, hc _ _ (ents_at l k hk).1, by rw [← add_field _ _ _ (by decide)]; exact hc _ _ (ents_at l k hk).2⟩

/-- a stack: its own block g, and the row v in which its entries lie -/
structure Stk (w : World) (B g : Nat) (v : Value) (l : List (Int × Int)) (room : Int) (over : Bool) : Prop where
  blk : w.heap[g]? = some (.cells #[v, .int .i64 room, .bool over] 72 (0, 0))
  own : w.ownsRow B 41 2 v l.length (ents l)
  base : B ≤ g
  r0 : 1 ≤ room
  r1 : room ≤ 256
  len : (l.length : Int) ≤ room

/-- the blocks that a stack lies in -/
def Foot (g : Nat) (v : Value) : Nat → Prop := fun k => k = g ∨ v.ownBlock = some k
theorem Stk.ne {w : World} {B g : Nat} {v : Value} {l : List (Int × Int)} {room : Int} {over : Bool} (h : Stk w B g v l room over) : v.ownBlock ≠ some g := own_ne_blk h.own h.blk (by decide)
theorem Stk.foot_lt {w : World} {B g : Nat} {v : Value} {l : List (Int × Int)} {room : Int} {over : Bool} (h : Stk w B g v l room over) : ∀ k, Foot g v k → B ≤ k ∧ k < w.heap.size := by
  rintro k (rfl | hk)
  · exact ⟨h.base, lt_of_blk h.blk⟩
  · exact h.own.lt k hk
theorem Stk.fr {w w' : World} {B g : Nat} {v : Value} {l : List (Int × Int)} {room : Int} {over : Bool} (h : Stk w B g v l room over) {S : Nat → Prop} (hf : Fr S w w') (hn : ∀ k, Foot g v k → ¬ S k) : Stk w' B g v l room over :=
  ⟨hf.blk h.blk (hn g (.inl rfl)), hf.own h.own (fun k hk => hn k (.inr hk)), h.base, h.r0, h.r1, h.len⟩

theorem Stk.below {w w' : World} {B g : Nat} {v : Value} {l : List (Int × Int)} {room : Int} {over : Bool} (h : Stk w B g v l room over) (hf : Fr (Foot g v) w w') (hB : B ≤ w.heap.size) : Below B w w' :=
  hf.below hB (fun k hk => (h.foot_lt k hk).1)

def PutPost (B g : Nat) (v : Value) (l : List (Int × Int)) (room : Int) (over : Bool) (w : World) (r : Value) (e : Ending) (w' : World) : Prop :=
  e = .returned r ∧ ∃ v', Stk w' B g v' l room over ∧ (v'.ownBlock = v.ownBlock ∨ ∃ k, v'.ownBlock = some k ∧ w.heap.size ≤ k) ∧ Fr (Foot g v) w w'

set_option maxRecDepth 100000 in
set_option maxHeartbeats 3200000 in
theorem put_any (B g : Nat) (v : Value) (l : List (Int × Int)) (room : Int) (over : Bool) (a b : Int) (w : World) (hs : Stk w B g v l room over) (hroom : (l.length : Int) < room) :
    Calls Tryd.prog 57 #[.pointer (some ⟨g, 0, none⟩), .agg #[.int .i64 a, .int .i64 b]] w (PutPost B g v (l ++ [(a, b)]) room over w (.tuple #[])) := by
  obtain ⟨i0, hi0, hz0, hz1, hz2⟩ := info_parts infoE
  have hne := hs.ne
  obtain ⟨hg, hown, hB, r0, r1, _⟩ := hs
  have lg := lt_of_blk hg
  have c0 : w.cell? ⟨g, 0, none⟩ = some v := cell_of hg 0
  have f0 : w.frozen? ⟨g, 0, none⟩ = false := free_of hg 0
  have hlt0 : v.ownBlock ≠ some w.heap.size := fun e => by have := (hown.lt _ e).2; omega
  have hbx : ((w.alloc (.cells #[.int .i64 a, .int .i64 b] 41)).alloc (.cells #[.int .i64 a, .int .i64 b] 41)).drew.heap[w.heap.size + 1]? = some (.cells #[.int .i64 a, .int .i64 b] 41 (0, 0)) := heap2_new w _ _
  have fz0 : ((w.alloc (.cells #[.int .i64 a, .int .i64 b] 41)).alloc (.cells #[.int .i64 a, .int .i64 b] 41)).drew.frozen? ⟨g, 0, none⟩ = false := by
    rw [World.frozen?_of_block (w := w) (heap2_old w _ _ _ lg)]; exact f0
  have cz0 : ((w.alloc (.cells #[.int .i64 a, .int .i64 b] 41)).alloc (.cells #[.int .i64 a, .int .i64 b] 41)).drew.cell? ⟨g, 0, none⟩ = some v := by
    rw [World.cell?_of_block (w := w) (heap2_old w _ _ _ lg)]; exact c0
  have hgz := alloc_of (alloc_of hg (.cells #[.int .i64 a, .int .i64 b] 41)) (.cells #[.int .i64 a, .int .i64 b] 41)
  have HG := Lib.hid hg
  have HZ := Lib.hid hgz
  clear hg hgz
  go_enter Tryd.func57, Tryd.ntmps57
  go_wp2_with fail
  go_region_law ((refine step_append_lies _ (by rfl) _ _ _ (by rfl) B 41 i0 _ 2 16 Tryd.underlying68 hi0 hz0 hz1 hz2 rfl (by omega) v l.length (ents l) (by rfl) (((hown.alloc _).alloc _).drew) ⟨w.heap.size + 1, 0, none⟩ 1 1 [.int .i64 a, .int .i64 b] (by rfl) (by rfl) (World.news_of_block (cs := #[.int .i64 a, .int .i64 b]) (t := 41) (fr := (0, 0)) hbx) (by simp [Value.oneCell']) (by omega) (by unfold maxLen; omega) (by omega) (by simp; omega) (w.heap.size + 2) (by simp) ?_; intro gg cap w1 hown1 hgrow hat hlt; have fz : w1.frozen? ⟨g, 0, none⟩ = false := (by rw [hgrow.frozen_far _ (by simp; omega) (Ne.symm hne)]; exact fz0); have cz : w1.cell? ⟨g, 0, none⟩ = some v := (by rw [hgrow.cell_far _ (by simp; omega) (Ne.symm hne)]; exact cz0)))
  all_goals
    go_wp2
    go_end0
    refine ⟨rfl, .slice (some ⟨gg, 0, none⟩) (l.length + 1) cap, ⟨?_, ?_, hB, r0, r1, ?_⟩, ?_, ?_⟩
    · have h1 : w1.heap[g]? = some (.cells #[v, .int .i64 room, .bool over] 72 (0, 0)) := (hgrow.block g (by simp; omega) (Ne.symm hne)).trans HZ.out
      exact set_of h1 0 _
    · have h2 : gg ≠ g := by
        rintro rfl
        rcases hat with h | h
        · exact hne h
        · omega
      rw [ents_snoc]
      simp only [List.length_append, List.length_cons, List.length_nil]
      exact own_setCell hown1 (by simpa [Value.ownBlock] using h2) _
    · simp only [List.length_append, List.length_cons, List.length_nil]; omega
    · rcases hat with h | h
      · exact .inl (by rw [h]; rfl)
      · exact .inr ⟨gg, rfl, by omega⟩
    · exact ((((Fr.refl _ w).alloc _).alloc _).drew.grown hgrow (fun k hk => .inl (.inr hk))).setCell (.inl (.inl rfl)) _


def EmptyPost (w : World) (r : Value) (e : Ending) (w' : World) : Prop := e = .returned r ∧ Below w.heap.size w w'

set_option maxHeartbeats 800000 in
theorem take_none (B g : Nat) (v : Value) (room : Int) (over : Bool) (w : World) (hs : Stk w B g v [] room over) :
    Calls Tryd.prog 56 #[.pointer (some ⟨g, 0, none⟩)] w (EmptyPost w (.tuple #[.agg #[.int .i64 0, .int .i64 0], .bool false])) := by
  obtain ⟨hg, hown, hB, r0, r1, _⟩ := hs
  have lg := lt_of_blk hg
  obtain ⟨A, c, rfl⟩ : ∃ A c, v = .slice A 0 c := by
    rcases hown.2 with ⟨rfl, _⟩ | ⟨g', cap, cur, rfl, _⟩
    · exact ⟨none, 0, rfl⟩
    · exact ⟨_, _, rfl⟩
  have c0 : w.cell? ⟨g, 0, none⟩ = some (.slice A 0 c) := cell_of hg 0
  have nn := World.new_ne w _ c0
  have HG := Lib.hid hg
  clear hg
  go_enter Tryd.func56, Tryd.ntmps56
  go_wp2
  refine bodyPost_ret (v := .tuple #[.agg #[.int .i64 0, .int .i64 0], .bool false]) (by simp [results, Tryd.results56, go_sem]) rfl ⟨rfl, ((Below.refl _ _).alloc (Nat.le_refl _) _).alloc (by simp) _⟩

def TakePost (B g : Nat) (v : Value) (l : List (Int × Int)) (room : Int) (over : Bool) (w : World) (r : Value) (e : Ending) (w' : World) : Prop :=
  e = .returned r ∧ ∃ v', Stk w' B g v' l room over ∧ v'.ownBlock = v.ownBlock ∧ Fr (Foot g v) w w'

set_option maxHeartbeats 800000 in
theorem take_some (B g : Nat) (v : Value) (l : List (Int × Int)) (a b : Int) (room : Int) (over : Bool) (w : World) (hs : Stk w B g v (l ++ [(a, b)]) room over) :
    Calls Tryd.prog 56 #[.pointer (some ⟨g, 0, none⟩)] w (TakePost B g v l room over w (.tuple #[.agg #[.int .i64 a, .int .i64 b], .bool true])) := by
  have hne := hs.ne
  obtain ⟨hg, hown, hB, r0, r1, hlen⟩ := hs
  have lg := lt_of_blk hg
  have hn : (l ++ [(a, b)]).length = l.length + 1 := by simp
  have hb : (l.length : Int) + 1 ≤ room := by omega
  have hb2 : l.length + 1 ≤ 256 := by omega
  obtain ⟨d, cap, cur, rfl, hBd, hd, hnc, hcm, hcs, htk⟩ : ∃ d cap cur, v = .slice (some ⟨d, 0, none⟩) (l.length + 1) cap ∧ B ≤ d ∧ w.heap[d]? = some (.cells cur 41 (0, 0)) ∧ l.length + 1 ≤ cap ∧ cap ≤ maxLen ∧ cur.size = cap * 2 ∧ cur.toList.take ((l.length + 1) * 2) = ents l ++ [.int .i64 a, .int .i64 b] := by
    rcases hown.2 with ⟨_, h⟩ | ⟨d, cap, cur, h1, h2, h3, h4, h5, h6, h7⟩
    · omega
    · rw [hn] at h1 h4 h7
      exact ⟨d, cap, cur, h1, h2, h3, h4, h5, h6, by rw [h7, ents_snoc]⟩
  have c0 : w.cell? ⟨g, 0, none⟩ = some (.slice (some ⟨d, 0, none⟩) (l.length + 1) cap) := cell_of hg 0
  have f0 : w.frozen? ⟨g, 0, none⟩ = false := free_of hg 0
  have ld := lt_of_blk hd
  have hel := ents_length l
  have x0 : w.cell? ⟨d, l.length * 2, none⟩ = some (.int .i64 a) := by
    have h := congrArg (fun z => z[l.length * 2]?) htk
    simp only [List.getElem?_take, List.getElem?_append_right (by omega : (ents l).length ≤ l.length * 2), hel, Nat.sub_self] at h
    rw [if_pos (by omega)] at h
    rw [cell_of hd]; simpa using h
  have x1 : w.cell? ⟨d, l.length * 2 + 1, none⟩ = some (.int .i64 b) := by
    have h := congrArg (fun z => z[l.length * 2 + 1]?) htk
    simp only [List.getElem?_take, List.getElem?_append_right (by omega : (ents l).length ≤ l.length * 2 + 1), hel] at h
    rw [if_pos (by omega), show l.length * 2 + 1 - l.length * 2 = 1 by omega] at h
    rw [cell_of hd]; simpa using h
  have HG := Lib.hid hg
  have HD := Lib.hid hd
  have HT := Lib.hid htk
  have HS := Lib.hid hcs
  clear hg hd htk hn hel hcs hown
  go_enter Tryd.func56, Tryd.ntmps56
  go_wp2
  refine bodyPost_ret (v := .tuple #[.agg #[.int .i64 a, .int .i64 b], .bool true]) (by simp [results, Tryd.results56, go_sem]) rfl ⟨rfl, .slice (some ⟨d, 0, none⟩) l.length cap, ⟨?_, ?_, hB, r0, r1, by omega⟩, rfl, ?_⟩
  · exact alloc_of (alloc_of (set_of HG.out 0 _) _) _
  · refine (World.ownsRow.alloc (World.ownsRow.alloc (own_setCell ⟨ents_length l, .inr ⟨d, cap, cur, rfl, hBd, HD.out, by omega, hcm, HS.out, ?_⟩⟩ ?_ _) _) _)
    · have h := congrArg (fun z => z.take (l.length * 2)) HT.out
      simp only [List.take_take, ← ents_length l, List.take_left] at h
      rw [Nat.min_eq_left (by rw [ents_length]; omega), ents_length] at h
      exact h
    · simpa [Value.ownBlock] using hne
  · exact ((((Fr.refl _ _).setCell (.inl (.inl rfl)) _).alloc _).alloc _)

theorem Stk.slice {w : World} {B g : Nat} {v : Value} {l : List (Int × Int)} {room : Int} {over : Bool} (h : Stk w B g v l room over) : ∃ A c, v = .slice A l.length c := by
  rcases h.own.2 with ⟨rfl, h0⟩ | ⟨d, cap, cur, rfl, _⟩
  · exact ⟨none, 0, by rw [h0]⟩
  · exact ⟨_, _, rfl⟩

def PushFull (B g : Nat) (v : Value) (l : List (Int × Int)) (room : Int) (w : World) (e : Ending) (w' : World) : Prop :=
  e = .returned (.bool false) ∧ Stk w' B g v l room true ∧ Fr (Foot g v) w w'

set_option maxHeartbeats 1600000 in
theorem push_full (B g : Nat) (v : Value) (l : List (Int × Int)) (room : Int) (over : Bool) (a b : Int) (w : World) (hs : Stk w B g v l room over) (hfull : (l.length : Int) = room) :
    Calls Tryd.prog 50 #[.pointer (some ⟨g, 0, none⟩), .agg #[.int .i64 a, .int .i64 b]] w (PushFull B g v l room w) := by
  have hne := hs.ne
  obtain ⟨A, c, rfl⟩ := hs.slice
  obtain ⟨hg, hown, hB, r0, r1, hlen⟩ := hs
  have lg := lt_of_blk hg
  have c0 : w.cell? ⟨g, 0, none⟩ = some (.slice A l.length c) := cell_of hg 0
  have c1 : w.cell? ⟨g, 1, none⟩ = some (.int .i64 room) := cell_of hg 1
  have c2 : w.cell? ⟨g, 2, none⟩ = some (.bool over) := cell_of hg 2
  have f2 : w.frozen? ⟨g, 2, none⟩ = false := free_of hg 2
  have e0 : (room == 0) = false := by rw [beq_eq_false_iff_ne]; omega
  have e1 : ((l.length : Int) == room) = true := by rw [beq_iff_eq]; omega
  have HG := Lib.hid hg
  have HL : Hid ((l.length : Int) ≤ room) := Lib.hid hlen
  clear hg hfull hlen
  go_enter Tryd.func50, Tryd.ntmps50
  go_wp2
  go_quiet (fail)
  go_wp2
  go_ret
  refine ⟨rfl, ⟨set_of (drewN_of (alloc_of HG.out _) _) 2 _, own_setCell (own_drewN (hown.alloc _) _) hne _, hB, r0, r1, HL.out⟩, (((Fr.refl _ _).alloc _).drewN _).setCell (.inl (.inl rfl)) _⟩

set_option maxHeartbeats 1600000 in
theorem push_room (B g : Nat) (v : Value) (l : List (Int × Int)) (room : Int) (over : Bool) (a b : Int) (w : World) (hs : Stk w B g v l room over) (hfull : (l.length : Int) < room) :
    Calls Tryd.prog 50 #[.pointer (some ⟨g, 0, none⟩), .agg #[.int .i64 a, .int .i64 b]] w (PutPost B g v (l ++ [(a, b)]) room over w (.bool true)) := by
  obtain ⟨A, c, rfl⟩ := hs.slice
  have HS := Lib.hid hs
  obtain ⟨hg, hown, hB, r0, r1, hlen⟩ := hs
  have lg := lt_of_blk hg
  have c0 : w.cell? ⟨g, 0, none⟩ = some (.slice A l.length c) := cell_of hg 0
  have c1 : w.cell? ⟨g, 1, none⟩ = some (.int .i64 room) := cell_of hg 1
  have e0 : (room == 0) = false := by rw [beq_eq_false_iff_ne]; omega
  have e1 : ((l.length : Int) == room) = false := by rw [beq_eq_false_iff_ne]; omega
  have HF := Lib.hid hfull
  clear hg hfull hlen hown
  go_enter Tryd.func50, Tryd.ntmps50
  go_wp2
  go_quiet (fail)
  go_wp2
  go_region_with ((go_at_call 57; refine (put_any B g _ l room over a b _ (HS.out.fr (S := No) (by repeat (first | exact Fr.refl _ _ | apply Fr.drewN | apply Fr.drew | apply Fr.alloc)) (fun _ _ h => h)) HF.out).mono ?_; rintro e w' ⟨rfl, v', hs', hat, hfr⟩))
  go_wp2
  go_ret
  refine ⟨rfl, v', hs', ?_, ?_⟩
  · rcases hat with h | ⟨k, h, hk⟩
    · exact .inl h
    · exact .inr ⟨k, h, by simp at hk; omega⟩
  · exact ((Fr.alloc (Fr.refl _ w) _).drewN _).trans hfr (fun i hi => .inl hi)

def PopNone (w : World) (e : Ending) (w' : World) : Prop := e = .returned (.tuple #[.agg #[.int .i64 0, .int .i64 0], .bool false]) ∧ Below w.heap.size w w'

set_option maxHeartbeats 1600000 in
theorem pop_none (B g : Nat) (v : Value) (room : Int) (over : Bool) (w : World) (hs : Stk w B g v [] room over) :
    Calls Tryd.prog 47 #[.pointer (some ⟨g, 0, none⟩)] w (PopNone w) := by
  have HS := Lib.hid hs
  have lg := lt_of_blk hs.blk
  have nn : w.heap.size ≠ g := by omega
  clear hs
  go_enter Tryd.func47, Tryd.ntmps47
  go_wp2_with (go_at_call 56; refine (take_none B g _ room over _ (HS.out.fr (S := No) (by repeat (first | exact Fr.refl _ _ | apply Fr.drewN | apply Fr.drew | apply Fr.alloc)) (fun _ _ h => h))).mono ?_; rintro e w' ⟨rfl, hbel⟩; have rb : w'.heap[w.heap.size]? = some (.cells #[.int .i64 0, .int .i64 0] 41 (0, 0)) := (hbel.block _ (by simp)).trans (heap_alloc_new w _); have x0 : w'.cell? ⟨w.heap.size, 0, none⟩ = some (.int .i64 0) := cell_of rb 0; have x1 : w'.cell? ⟨w.heap.size, 1, none⟩ = some (.int .i64 0) := cell_of rb 1; have y0 := free_of rb 0; have y1 := free_of rb 1; have RB := Lib.hid rb; have HB := Lib.hid hbel; clear rb hbel)
  refine bodyPost_ret (v := .tuple #[.agg #[.int .i64 0, .int .i64 0], .bool false]) (by simp [results, Tryd.results47, go_sem, x0, x1]) rfl ⟨rfl, ?_⟩
  exact ((((Below.refl _ _).alloc (Nat.le_refl _) _).trans (HB.out.mono (by simp))).setCell (Nat.le_refl _) _).setCell (Nat.le_refl _) _

set_option maxHeartbeats 1600000 in
theorem pop_some (B g : Nat) (v : Value) (l : List (Int × Int)) (a b : Int) (room : Int) (over : Bool) (w : World) (hs : Stk w B g v (l ++ [(a, b)]) room over) :
    Calls Tryd.prog 47 #[.pointer (some ⟨g, 0, none⟩)] w (TakePost B g v l room over w (.tuple #[.agg #[.int .i64 a, .int .i64 b], .bool true])) := by
  have HS := Lib.hid hs
  have HN : Hid (¬ Foot g v w.heap.size) := Lib.hid (fun h => by have := (hs.foot_lt _ h).2; omega)
  have lg := lt_of_blk hs.blk
  have nn : w.heap.size ≠ g := by omega
  clear hs
  go_enter Tryd.func47, Tryd.ntmps47
  go_wp2_with (go_at_call 56; refine (take_some B g v l a b room over _ (HS.out.fr (S := No) (by repeat (first | exact Fr.refl _ _ | apply Fr.drewN | apply Fr.drew | apply Fr.alloc)) (fun _ _ h => h))).mono ?_; rintro e w' ⟨rfl, v', hs', hat, hfr⟩; have rb : w'.heap[w.heap.size]? = some (.cells #[.int .i64 0, .int .i64 0] 41 (0, 0)) := hfr.blk (heap_alloc_new w _) HN.out; have x0 : w'.cell? ⟨w.heap.size, 0, none⟩ = some (.int .i64 0) := cell_of rb 0; have x1 : w'.cell? ⟨w.heap.size, 1, none⟩ = some (.int .i64 0) := cell_of rb 1; have y0 := free_of rb 0; have y1 := free_of rb 1; have RB := Lib.hid rb; have HB := Lib.hid hfr; have HA := Lib.hid hat; have HS2 := Lib.hid hs'; clear rb hfr hat hs')
  refine bodyPost_ret (v := .tuple #[.agg #[.int .i64 a, .int .i64 b], .bool true]) (by simp [results, Tryd.results47, go_sem, x0, x1]) rfl ⟨rfl, v', ?_, HA.out, ?_⟩
  · have hw : ∀ k, Foot g v' k → k ≠ w.heap.size := by
      rintro k hk rfl
      refine HN.out ?_
      rcases hk with h | h
      · exact .inl h
      · exact .inr (by rw [← HA.out]; exact h)
    exact HS2.out.fr (((Fr.refl (fun k => k = w.heap.size) w').setCell (.inl rfl) _).setCell (.inl rfl) _) (fun k hk => hw k hk)
  · exact (((Fr.alloc (Fr.refl _ w) _).trans HB.out (fun i hi => .inl hi)).setCell (.inr (Nat.le_refl _)) _).setCell (.inr (Nat.le_refl _)) _

def Same (w : World) (r : Value) (e : Ending) (w' : World) : Prop := e = .returned r ∧ Below w.heap.size w w'
def Quiet (w : World) (r : Value) (e : Ending) (w' : World) : Prop := e = .returned r ∧ ∃ n, w' = w.drewN n

set_option maxHeartbeats 1600000 in
theorem len_any (B g : Nat) (v : Value) (l : List (Int × Int)) (room : Int) (over : Bool) (w : World) (hs : Stk w B g v l room over) :
    Calls Tryd.prog 51 #[.pointer (some ⟨g, 0, none⟩)] w (Quiet w (.int .i64 l.length)) := by
  obtain ⟨A, c, rfl⟩ := hs.slice
  have c0 : w.cell? ⟨g, 0, none⟩ = some (.slice A l.length c) := cell_of hs.blk 0
  clear hs
  go_enter Tryd.func51, Tryd.ntmps51
  go_wp2
  go_ret
  exact ⟨rfl, 0, rfl⟩

set_option maxHeartbeats 1600000 in
theorem over_any (B g : Nat) (v : Value) (l : List (Int × Int)) (room : Int) (over : Bool) (w : World) (hs : Stk w B g v l room over) :
    Calls Tryd.prog 52 #[.pointer (some ⟨g, 0, none⟩)] w (Quiet w (.bool over)) := by
  have c2 : w.cell? ⟨g, 2, none⟩ = some (.bool over) := cell_of hs.blk 2
  clear hs
  go_enter Tryd.func52, Tryd.ntmps52
  go_wp2
  go_ret
  exact ⟨rfl, 0, rfl⟩

def SettlePost (B g : Nat) (v : Value) (l : List (Int × Int)) (room : Int) (over : Bool) (w : World) (e : Ending) (w' : World) : Prop :=
  e = .returned (.bool over) ∧ Stk w' B g v l room false ∧ Fr (Foot g v) w w'

set_option maxHeartbeats 1600000 in
theorem settle_any (B g : Nat) (v : Value) (l : List (Int × Int)) (room : Int) (over : Bool) (w : World) (hs : Stk w B g v l room over) :
    Calls Tryd.prog 53 #[.pointer (some ⟨g, 0, none⟩)] w (SettlePost B g v l room over w) := by
  have HS := Lib.hid hs
  have c2 : w.cell? ⟨g, 2, none⟩ = some (.bool over) := cell_of hs.blk 2
  have f2 := free_of hs.blk 2
  clear hs
  cases over with
  | false =>
    go_enter Tryd.func53, Tryd.ntmps53
    go_wp2_with (go_at_call 52; refine (over_any B g v l room _ _ HS.out).mono ?_; rintro e w' ⟨rfl, n, rfl⟩)
    go_ret
    exact ⟨rfl, HS.out.fr (Fr.drewN (Fr.refl No w) n) (fun _ _ h => h), Fr.drewN (Fr.refl _ w) n⟩
  | true =>
    go_enter Tryd.func53, Tryd.ntmps53
    go_wp2_with (go_at_call 52; refine (over_any B g v l room _ _ HS.out).mono ?_; rintro e w' ⟨rfl, n, rfl⟩)
    go_ret
    have hs := HS.out
    exact ⟨rfl, ⟨set_of (drewN_of hs.blk n) 2 _, own_setCell (own_drewN hs.own n) hs.ne _, hs.base, hs.r0, hs.r1, hs.len⟩, (Fr.drewN (Fr.refl _ w) n).setCell (.inl (.inl rfl)) _⟩

/-- what a copy of some entries is: a new row -/
def CopyPost (l : List (Int × Int)) (w : World) (e : Ending) (w' : World) : Prop :=
  ∃ v', e = .returned v' ∧ w'.ownsRow w.heap.size 41 2 v' l.length (ents l) ∧ Below w.heap.size w w'

theorem ents_one (l : List (Int × Int)) : ∀ u ∈ ents l, u.oneCell' = true := by
  intro u hu
  simp only [ents, List.mem_flatMap, List.mem_cons, List.not_mem_nil, or_false] at hu
  obtain ⟨p, _, rfl | rfl⟩ := hu <;> rfl

set_option maxHeartbeats 1600000 in
theorem clone_any (v : Value) (l : List (Int × Int)) (w : World) (hr : Rd w v l.length 2 (ents l)) (hl : l.length ≤ 100000) :
    Calls Tryd.prog 55 #[v] w (CopyPost l w) := by
  obtain ⟨i0, hi0, hz0, hz1, hz2⟩ := info_parts infoE
  rcases hr.at_ with ⟨rfl, h0⟩ | ⟨ad, c, rfl, hc, hcell⟩
  · obtain rfl := List.eq_nil_of_length_eq_zero h0
    have hnil := fun w0 : World => Lib.run_eql_slice_nil (P := Tryd.prog) w0 68 41 none 0 0 0 0 Tryd.underlying68
    go_enter Tryd.func55, Tryd.ntmps55
    go_wp2
    go_ret
    exact ⟨_, rfl, World.ownsRow_nil _ _ _ _, Below.refl _ _⟩
  · clear hc hcell
    have hnil := fun w0 : World => Lib.run_eql_slice_nil (P := Tryd.prog) w0 68 41 (some ad) l.length c 0 0 Tryd.underlying68
    have HR := Lib.hid (hr.below ((Below.refl _ _).alloc (Nat.le_refl _) (.cells #[] 41)))
    clear hr
    go_enter Tryd.func55, Tryd.ntmps55
    go_wp2_with (at_builtin; refine wpList_append_rd rfl _ _ _ rfl w.heap.size 41 i0 _ 2 16 Tryd.underlying68 hi0 hz0 hz1 hz2 rfl (by omega) _ 0 [] rfl (World.ownsRow_made w #[] 0 (Nat.le_refl _) (by unfold maxLen; omega) rfl) _ l.length (ents l) rfl HR.out (by unfold maxLen; omega) (by omega) (by simp) ?_; intro v' w' hown hgrow hat)
    go_ret
    refine ⟨v', rfl, by simpa using hown, ?_⟩
    exact Below.grown ((Below.refl _ _).alloc (Nat.le_refl _) _) hgrow (by simp) (fun k hk => by cases hk; exact Nat.le_refl _)

set_option maxHeartbeats 1600000 in
theorem all_any (B g : Nat) (v : Value) (l : List (Int × Int)) (room : Int) (over : Bool) (w : World) (hs : Stk w B g v l room over) :
    Calls Tryd.prog 46 #[.pointer (some ⟨g, 0, none⟩)] w (CopyPost l w) := by
  have c0 : w.cell? ⟨g, 0, none⟩ = some v := cell_of hs.blk 0
  have hl := hs.len
  have h1 := hs.r1
  have HR := Lib.hid (Rd.of_own hs.own (ents_one l))
  clear hs
  go_enter Tryd.func46, Tryd.ntmps46
  go_wp2_with (go_at_call 55; refine (clone_any v l _ HR.out (by omega)).mono ?_; rintro e w' ⟨v', rfl, hown, hbel⟩)
  go_ret
  exact ⟨v', rfl, hown, hbel⟩

def NewPost (room : Int) (w : World) (e : Ending) (w' : World) : Prop :=
  ∃ g, e = .returned (.pointer (some ⟨g, 0, none⟩)) ∧ Stk w' w.heap.size g (.slice none 0 0) [] room false ∧ Below w.heap.size w w'

theorem clamp_any (n lo hi : Int) (w : World) (h : lo ≤ hi) :
    Calls Tryd.prog 45 #[.int .i64 n, .int .i64 lo, .int .i64 hi] w (Quiet w (.int .i64 (max lo (min n hi)))) := by
  by_cases h1 : n < lo
  · have e : max lo (min n hi) = lo := by omega
    rw [e]
    go_enter Tryd.func45, Tryd.ntmps45
    go_wp2
    go_ret
    exact ⟨rfl, 0, rfl⟩
  by_cases h2 : hi < n
  · have e : max lo (min n hi) = hi := by omega
    rw [e]
    go_enter Tryd.func45, Tryd.ntmps45
    go_wp2
    go_ret
    exact ⟨rfl, 0, rfl⟩
  · have e : max lo (min n hi) = n := by omega
    rw [e]
    go_enter Tryd.func45, Tryd.ntmps45
    go_wp2
    go_ret
    exact ⟨rfl, 0, rfl⟩

set_option maxHeartbeats 1600000 in
theorem new_any (n r : Int) (hr : max 1 (min n 256) = r) (w : World) :
    Calls Tryd.prog 24 #[.int .i64 n] w (NewPost r w) := by
  have hb : 1 ≤ r ∧ r ≤ 256 := by omega
  have HR := Lib.hid hr
  clear hr
  go_enter Tryd.func24, Tryd.ntmps24
  go_wp2_with (go_at_call 45; refine (clamp_any n 1 256 _ (by omega)).mono ?_; rintro e w' ⟨rfl, k, rfl⟩; rw [HR.out])
  go_ret
  refine ⟨_, rfl, ⟨heap_alloc_new _ _, World.ownsRow_nil _ _ _ _, Nat.le_refl _, hb.1, hb.2, by simp; omega⟩, ?_⟩
  exact (((Fr.refl No w).drewN k).alloc _).below (Nat.le_refl _) (fun _ h => h.elim)

end Go.Proofs.YtoipjmhfeggdeaaDoor.Stack
