/- Proved: a list cut to its first ones; a stack's clone; what stacks that nobody made tell. -/
import Derived.Test.YtmgdlblifeammaaStackRuns
namespace Go.Proofs.Ytmgdlblifeammaa.StackTop
open Go.RowKit Go.Proofs.Ytmgdlblifeammaa.H Go.Proofs.Ytmgdlblifeammaa.Stack Go.Proofs.Ytmgdlblifeammaa.StackLaw Go.Proofs.Ytmgdlblifeammaa.StackRun Go.Proofs.Ytmgdlblifeammaa.StackRuns Go.ChangeShapes Go.WideShapes

def CutPost (A : Option Addr) (n m c : Nat) (w : World) (e : Ending) (w' : World) : Prop := e = .returned (.slice A (min n m) c) ∧ w' = w

set_option maxHeartbeats 800000 in
theorem few_any (A : Option Addr) (n c : Nat) (w : World) (hc : n ≤ c) :
    Calls Try.prog 13 #[.slice A n c] w (CutPost A n 60 c w) := by
  by_cases h : 60 < n
  · have e : min n 60 = 60 := by omega
    go_enter Try.func13, Try.ntmps13
    go_wp2
    go_ret
    exact ⟨by rw [e]; rfl, rfl⟩
  · have e : min n 60 = n := by omega
    go_enter Try.func13, Try.ntmps13
    go_wp2
    go_ret
    exact ⟨by rw [e]; rfl, rfl⟩

theorem few_list (A : Option Addr) (l : List (Int × Int × Int)) (c : Nat) (w : World) (hc : l.length ≤ c) :
    Calls Try.prog 13 #[.slice A l.length c] w (fun e w' => e = .returned (.slice A (l.take 60).length c) ∧ w' = w) := by
  have e : (l.take 60).length = min l.length 60 := by rw [List.length_take]; omega
  rw [e]; exact few_any A l.length c w hc

theorem calls_take (l : List (Int × Int × Int)) (m : Nat) : (calls l).take (m * 3) = calls (l.take m) := by
  induction l generalizing m with
  | nil => simp [calls]
  | cons p l ih =>
    cases m with
    | zero => simp [calls]
    | succ m =>
      have e : calls (p :: l) = .int .i64 p.1 :: .int .i64 p.2.1 :: .int .i64 p.2.2 :: calls l := by simp [calls]
      rw [e, show (m + 1) * 3 = m * 3 + 1 + 1 + 1 by omega, List.take_succ_cons, List.take_succ_cons, List.take_succ_cons, ih, List.take_succ_cons]
      simp [calls]

theorem Stk.lower {w : World} {B B' g : Nat} {v : Value} {l : List (Int × Int)} {room : Int} {over : Bool} (h : Stk w B g v l room over) (hB : B' ≤ B) : Stk w B' g v l room over := by
  refine ⟨h.blk, ⟨h.own.1, ?_⟩, Nat.le_trans hB h.base, h.r0, h.r1, h.len⟩
  rcases h.own.2 with h2 | ⟨d, cap, cur, h1, h2, h3⟩
  · exact .inl h2
  · exact .inr ⟨d, cap, cur, h1, Nat.le_trans hB h2, h3⟩

def ClonePost (l : List (Int × Int)) (room : Int) (over : Bool) (w : World) (e : Ending) (w' : World) : Prop :=
  ∃ g v, e = .returned (.pointer (some ⟨g, 0, none⟩)) ∧ Stk w' w.heap.size g v l room over ∧ Below w.heap.size w w'

set_option maxRecDepth 100000 in
set_option maxHeartbeats 3200000 in
theorem clone_any (B g : Nat) (v : Value) (l : List (Int × Int)) (room : Int) (over : Bool) (w : World) (hs : Stk w B g v l room over) :
    Calls Try.prog 14 #[.pointer (some ⟨g, 0, none⟩)] w (ClonePost l room over w) := by
  have c1 : w.cell? ⟨g, 1, none⟩ = some (.int .i64 room) := cell_of hs.blk 1
  have c2 : w.cell? ⟨g, 2, none⟩ = some (.bool over) := cell_of hs.blk 2
  have r0 := hs.r0
  have e0 : (room == 0) = false := by rw [beq_eq_false_iff_ne]; omega
  have lg := lt_of_blk hs.blk
  have HS := Lib.hid hs
  have C1 := Lib.hid c1
  have C2 := Lib.hid c2
  clear hs r0
  go_enter Try.func14, Try.ntmps14
  go_wp2_with fail
  go_region_held3 (fun w' => w'.cell? ⟨g, 1, none⟩ = some (.int .i64 room) ∧ w'.cell? ⟨g, 2, none⟩ = some (.bool over))
    (((try go_split_ands); refine ⟨?_, ?_⟩ <;> (first | with_reducible assumption | (with_reducible exact F7.out.cell C1.out (fun h => h)) | (with_reducible exact F7.out.cell C2.out (fun h => h)) | (go_keep; done))))
    ((go_at_call 16; refine (all_any B g v l room over _ (HS.out.fr (S := No) (by repeat (first | exact Fr.refl _ _ | apply Fr.drewN | apply Fr.drew | apply Fr.alloc)) (fun _ _ h => h))).mono ?_; rintro e w7 ⟨v7, rfl, hown7, hb7⟩; obtain ⟨A7, c7, rfl, _⟩ := own_slice hown7; have F7 := Lib.hid (show Fr No w w7 from Fr.then_below (by repeat (first | exact Fr.refl _ _ | apply Fr.drewN | apply Fr.drew | apply Fr.alloc)) hb7); have O7 := Lib.hid hown7; clear hown7 hb7))
  go_wp2
  go_ret
  have hs := HS.out
  refine ⟨w7.heap.size, .slice A7 l.length c7, rfl, ⟨heap_alloc_new _ _, ?_, F7.out.size, hs.r0, hs.r1, hs.len⟩, ?_⟩
  · exact Fr.own (S := No) (w := w7) (by repeat (first | exact Fr.refl _ _ | apply Fr.drewN | apply Fr.drew | apply Fr.alloc)) O7.out (fun _ _ h => h)
  · exact Fr.below (S := No) (by repeat (first | exact F7.out | apply Fr.drewN | apply Fr.drew | apply Fr.alloc)) (Nat.le_refl _) (fun _ h => h.elim)

/-! ### nobody made it -/
set_option maxHeartbeats 800000 in
theorem pop_nil (w : World) : Calls Try.prog 11 #[.pointer none] w (PopNone w) := by
  go_enter Try.func11, Try.ntmps11
  go_wp2
  refine bodyPost_ret (v := .tuple #[.agg #[.int .i64 0, .int .i64 0], .bool false]) (by simp [results, Try.results11, go_sem]) rfl ⟨rfl, (Below.refl _ _).alloc (Nat.le_refl _) _⟩
set_option maxHeartbeats 800000 in
theorem push_nil (a b : Int) (w : World) : Calls Try.prog 9 #[.pointer none, .agg #[.int .i64 a, .int .i64 b]] w (Same w (.bool false)) := by
  go_enter Try.func9, Try.ntmps9
  go_wp2
  go_ret
  exact ⟨rfl, Fr.below (S := No) (by repeat (first | exact Fr.refl _ _ | apply Fr.drewN | apply Fr.drew | apply Fr.alloc)) (Nat.le_refl _) (fun _ h => h.elim)⟩
set_option maxHeartbeats 800000 in
theorem len_nil (w : World) : Calls Try.prog 17 #[.pointer none] w (Quiet w (.int .i64 0)) := by
  go_enter Try.func17, Try.ntmps17
  go_wp2
  go_ret
  exact ⟨rfl, 0, rfl⟩
set_option maxHeartbeats 800000 in
theorem over_nil (w : World) : Calls Try.prog 10 #[.pointer none] w (Quiet w (.bool false)) := by
  go_enter Try.func10, Try.ntmps10
  go_wp2
  go_ret
  exact ⟨rfl, 0, rfl⟩
set_option maxHeartbeats 800000 in
theorem settle_nil (w : World) : Calls Try.prog 18 #[.pointer none] w (Quiet w (.bool false)) := by
  go_enter Try.func18, Try.ntmps18
  go_wp2_with (go_at_call 10; refine (over_nil _).mono ?_; rintro e w' ⟨rfl, n, rfl⟩)
  go_ret
  exact ⟨rfl, n, rfl⟩
set_option maxHeartbeats 800000 in
theorem all_nil (w : World) : Calls Try.prog 16 #[.pointer none] w (Quiet w (.slice none 0 0)) := by
  go_enter Try.func16, Try.ntmps16
  go_wp2
  go_ret
  exact ⟨rfl, 0, rfl⟩
set_option maxHeartbeats 800000 in
theorem clone_nil (w : World) : Calls Try.prog 14 #[.pointer none] w (Quiet w (.pointer none)) := by
  go_enter Try.func14, Try.ntmps14
  go_wp2
  go_ret
  exact ⟨rfl, 0, rfl⟩

/-- a stack's block, all zero -/
def Odd (w : World) (g : Nat) : Prop := w.heap[g]? = some (.cells #[.slice none 0 0, .int .i64 0, .bool false] 44 (0, 0))
set_option maxHeartbeats 800000 in
theorem push_odd (g : Nat) (a b : Int) (w : World) (hg : Odd w g) : Calls Try.prog 9 #[.pointer (some ⟨g, 0, none⟩), .agg #[.int .i64 a, .int .i64 b]] w (Same w (.bool false)) := by
  have lg := lt_of_blk hg
  have c1 : w.cell? ⟨g, 1, none⟩ = some (.int .i64 0) := cell_of hg 1
  clear hg
  go_enter Try.func9, Try.ntmps9
  go_wp2
  go_ret
  exact ⟨rfl, Fr.below (S := No) (by repeat (first | exact Fr.refl _ _ | apply Fr.drewN | apply Fr.drew | apply Fr.alloc)) (Nat.le_refl _) (fun _ h => h.elim)⟩
set_option maxHeartbeats 800000 in
theorem over_odd (g : Nat) (w : World) (hg : Odd w g) : Calls Try.prog 10 #[.pointer (some ⟨g, 0, none⟩)] w (Quiet w (.bool false)) := by
  have c2 : w.cell? ⟨g, 2, none⟩ = some (.bool false) := cell_of hg 2
  clear hg
  go_enter Try.func10, Try.ntmps10
  go_wp2
  go_ret
  exact ⟨rfl, 0, rfl⟩
set_option maxHeartbeats 800000 in
theorem clone_odd (g : Nat) (w : World) (hg : Odd w g) : Calls Try.prog 14 #[.pointer (some ⟨g, 0, none⟩)] w (Quiet w (.pointer none)) := by
  have c1 : w.cell? ⟨g, 1, none⟩ = some (.int .i64 0) := cell_of hg 1
  clear hg
  go_enter Try.func14, Try.ntmps14
  go_wp2
  go_ret
  exact ⟨rfl, 0, rfl⟩
set_option maxHeartbeats 800000 in
theorem take_odd (g : Nat) (w : World) (hg : Odd w g) : Calls Try.prog 21 #[.pointer (some ⟨g, 0, none⟩)] w (PopNone w) := by
  have lg := lt_of_blk hg
  have c0 : w.cell? ⟨g, 0, none⟩ = some (.slice none 0 0) := cell_of hg 0
  have nn := World.new_ne w _ c0
  clear hg
  go_enter Try.func21, Try.ntmps21
  go_wp2
  refine bodyPost_ret (v := .tuple #[.agg #[.int .i64 0, .int .i64 0], .bool false]) (by simp [results, Try.results21, go_sem]) rfl ⟨rfl, ((Below.refl _ _).alloc (Nat.le_refl _) _).alloc (by simp) _⟩
set_option maxHeartbeats 1600000 in
theorem pop_odd (g : Nat) (w : World) (hg : Odd w g) : Calls Try.prog 11 #[.pointer (some ⟨g, 0, none⟩)] w (PopNone w) := by
  have HS := Lib.hid hg
  have lg := lt_of_blk hg
  have nn : w.heap.size ≠ g := by omega
  clear hg
  go_enter Try.func11, Try.ntmps11
  go_wp2_with (go_at_call 21; refine (take_odd g _ (alloc_of HS.out _)).mono ?_; rintro e w' ⟨rfl, hbel⟩; have rb : w'.heap[w.heap.size]? = some (.cells #[.int .i64 0, .int .i64 0] 29 (0, 0)) := (hbel.block _ (by simp)).trans (heap_alloc_new w _); have x0 : w'.cell? ⟨w.heap.size, 0, none⟩ = some (.int .i64 0) := cell_of rb 0; have x1 : w'.cell? ⟨w.heap.size, 1, none⟩ = some (.int .i64 0) := cell_of rb 1; have y0 := free_of rb 0; have y1 := free_of rb 1; have RB := Lib.hid rb; have HB := Lib.hid hbel; clear rb hbel)
  refine bodyPost_ret (v := .tuple #[.agg #[.int .i64 0, .int .i64 0], .bool false]) (by simp [results, Try.results11, go_sem, x0, x1]) rfl ⟨rfl, ?_⟩
  exact ((((Below.refl _ _).alloc (Nat.le_refl _) _).trans (HB.out.mono (by simp))).setCell (Nat.le_refl _) _).setCell (Nat.le_refl _) _


/-- what a script's run is asked of, and gives -/
theorem calls_rd {w W : World} {A : Option Addr} {n c : Nat} {l : List (Int × Int × Int)} (hn : l.length = n) (h : Rd w (.slice A n c) n 3 (calls l)) (hb : Below w.heap.size w W) :
    Rd W (.slice A (min n 60) c) (l.take 60).length 3 (calls (l.take 60)) := by
  subst hn
  have e : (l.take 60).length = min l.length 60 := by rw [List.length_take]; omega
  have h2 := (h.below hb).take (m := min l.length 60) (by omega)
  rw [calls_take, show l.take (min l.length 60) = l.take 60 by rw [Nat.min_comm]; exact (List.take_eq_take_min).symm] at h2
  rw [e]; exact h2

theorem calls_rd2 {w W : World} {A : Option Addr} {c : Nat} {l : List (Int × Int × Int)} (h : Rd w (.slice A l.length c) l.length 3 (calls l)) (hb : Below w.heap.size w W) :
    Rd W (.slice A (l.take 60).length c) (l.take 60).length 3 (calls (l.take 60)) := by
  have e : (l.take 60).length = min l.length 60 := by rw [List.length_take]; omega
  have h2 := calls_rd rfl h hb
  rw [← e] at h2
  exact h2
theorem take60 (l : List (Int × Int × Int)) : (l.take 60).length ≤ 1000 := by rw [List.length_take]; omega

theorem run_cut (B g : Nat) (v bv : Value) (l : List (Int × Int)) (room : Int) (over : Bool) (A : Option Addr) (c : Nat) (ops : List (Int × Int × Int)) (w0 w : World) (hs : Both w B g v bv l room over)
    (hB : B ≤ w.heap.size) (hr : Rd w0 (.slice A ops.length c) ops.length 3 (calls ops)) (hv : ∀ W, Below B w W → Below w0.heap.size w0 W) :
    Calls Try.prog 12 #[.pointer (some ⟨g, 0, none⟩), .agg #[bv, .int .i64 room, .bool over], .slice A (min 60 ops.length) c] w (StepPost B g v bv room w) := by
  have e : min 60 ops.length = (ops.take 60).length := by rw [List.length_take]
  rw [e]
  exact run_any B g v bv l room over A c (ops.take 60) w hs hB (fun W hW => calls_rd2 hr (hv W hW)) (take60 ops)

theorem few_min (A : Option Addr) (n c : Nat) (w : World) (hc : n ≤ c) :
    Calls Try.prog 13 #[.slice A n c] w (CutPost A 60 n c w) := by
  rw [show CutPost A 60 n c w = CutPost A n 60 c w from by unfold CutPost; rw [Nat.min_comm]]; exact few_any A n c w hc

theorem below_via {w0 w7 W0 W : World} (h1 : Below w0.heap.size w0 w7) (h2 : Fr No w7 W0) (hW : Below w0.heap.size W0 W) : Below w0.heap.size w0 W :=
  (h1.trans (h2.below h1.size (fun _ h => h.elim))).trans hW

set_option maxRecDepth 100000 in
set_option maxHeartbeats 6400000 in
theorem runs_any (n : Int) (v : Value) (l : List (Int × Int × Int)) (w : World) (hr : Rd w v l.length 3 (calls l)) (hl : l.length ≤ 100000000000000) :
    Calls Try.prog 4 #[.int .i64 n, v] w (Same w (.bool true)) := by
  obtain ⟨A, c, rfl, hc⟩ := hr.slice
  obtain ⟨r, hrm⟩ : ∃ r, max 1 (min n 256) = r := ⟨_, rfl⟩
  have HR := Lib.hid hr
  have HM := Lib.hid hrm
  have HC := Lib.hid hc
  have HE : Hid ((l.take 60).length = min l.length 60) := Lib.hid (by rw [List.length_take]; omega)
  clear hr hrm hc hl
  go_enter Try.func4, Try.ntmps4
  go_wp2_with fail
  refine (alive_any _).mono ?_
  rintro e w1 ⟨rfl, hb1⟩
  have B1 := Lib.hid hb1
  clear hb1
  go_wp2_with fail
  refine (new_any n r HM.out _).mono ?_
  rintro e w3 ⟨g, rfl, hs3, hb3⟩
  have H3 := Lib.hid (Stk.lower hs3 B1.out.size)
  have B3 := Lib.hid (B1.out.trans (hb3.mono B1.out.size))
  clear hs3 hb3 B1
  go_wp2_with fail
  refine (near_any n r HM.out _).mono ?_
  rintro e w2 ⟨rfl, n2, rfl⟩
  go_wp2_with fail
  refine (few_any A l.length c _ HC.out).mono ?_
  rintro e w4 ⟨rfl, hw4⟩
  subst hw4
  go_wp2_with fail
  rw [show min l.length 60 = (l.take 60).length from HE.out.symm]
  have B4 : Hid (Below w.heap.size w (w3.drewN n2)) := Lib.hid (((Fr.of_below B3.out No).drewN n2).below (Nat.le_refl _) (fun _ h => h.elim))
  refine (run_any w.heap.size g (.slice none 0 0) (.slice none 0 0) [] r false A c (l.take 60) (w3.drewN n2) ((Both.mk H3.out (World.ownsRow_nil _ _ _ _) (fun k hk => by cases hk)).fr (Fr.drewN (Fr.refl No w3) n2)) B4.out.size (fun W hW => by rw [HE.out]; have h := calls_rd rfl HR.out (B4.out.trans hW); rw [HE.out] at h; exact h) (by have := HE.out; omega)).mono ?_
  rintro e w5 ⟨v5, bv5, l5, over5, rfl, hb5, hf5, hat5, hmv5⟩
  obtain ⟨A5, c5, rfl, _⟩ := own_slice hb5.row
  have B5 := Lib.hid (B4.out.trans ((H3.out.fr (Fr.drewN (Fr.refl No w3) n2) (fun _ _ h => h)).below hf5 B4.out.size))
  clear hb5 hf5 hat5 hmv5
  go_wp2
  go_ret
  exact ⟨rfl, (Fr.of_below B5.out No |>.alloc _).below (Nat.le_refl _) (fun _ h => h.elim)⟩



theorem Moved.back {v v' : Value} {w W : World} (h : Moved v v' W) (hz : w.heap.size ≤ W.heap.size) : Moved v v' w := by
  rcases h with h | ⟨k, h1, h2⟩
  · exact .inl h
  · exact .inr ⟨k, h1, Nat.le_trans hz h2⟩

/-- where a law stands behind a script's run: the book lies in block b -/
structure RunDone (B g : Nat) (v bv : Value) (room : Int) (wo wc : World) (b : Nat) (v' bv' : Value) (l' : List (Int × Int)) (over' : Bool) : Prop where
  blk : wc.heap[b]? = some (.cells #[bv', .int .i64 room, .bool over'] 35 (0, 0))
  both : Both wc B g v' bv' l' room over'
  fr : Fr (Foot g v) wo wc
  at_ : Moved v v' wo
  bat : Moved bv bv' wo
  new : wo.heap.size ≤ b

theorem RunDone.set {B g : Nat} {v bv : Value} {room : Int} {wo w8 : World} {v' bv' : Value} {l' : List (Int × Int)} {over' : Bool} (hb : Both w8 B g v' bv' l' room over') (hf : Fr (Foot g v) wo w8) (ha : Moved v v' wo) (hm : Moved bv bv' wo)
    (hz : w8.heap[wo.heap.size]? = some (.cells #[.slice none 0 0, .int .i64 0, .bool false] 35 (0, 0))) :
    RunDone B g v bv room wo (((w8.setCell ⟨wo.heap.size, 0, none⟩ bv').setCell ⟨wo.heap.size, 1, none⟩ (.int .i64 room)).setCell ⟨wo.heap.size, 2, none⟩ (.bool over')) wo.heap.size v' bv' l' over' := by
  have hs : Fr (fun k => k = wo.heap.size) w8 (((w8.setCell ⟨wo.heap.size, 0, none⟩ bv').setCell ⟨wo.heap.size, 1, none⟩ (.int .i64 room)).setCell ⟨wo.heap.size, 2, none⟩ (.bool over')) := (((Fr.refl (fun k => k = wo.heap.size) w8).setCell (p := ⟨wo.heap.size, 0, none⟩) (.inl rfl) _).setCell (p := ⟨wo.heap.size, 1, none⟩) (.inl rfl) _).setCell (p := ⟨wo.heap.size, 2, none⟩) (.inl rfl) _
  have h1 : ¬ Foot g v' wo.heap.size := by
    rintro (h | h)
    · exact ne_of_type hb.stk.blk hz (by decide) h.symm
    · exact own_ne_blk hb.stk.own hz (by decide) h
  have h2 := own_ne_blk hb.row hz (by decide)
  exact ⟨set3_of hz _ _ _, ⟨hb.stk.fr hs (fun k hk e => h1 (e ▸ hk)), hs.own hb.row (fun k hk e => h2 (e ▸ hk)), hb.sep⟩, hf.trans hs (fun i hi => .inr (by rw [hi]; exact Nat.le_refl _)), ha, hm, Nat.le_refl _⟩

theorem RunDone.alloc {B g : Nat} {v bv : Value} {room : Int} {wo w8 : World} {v' bv' : Value} {l' : List (Int × Int)} {over' : Bool} (hb : Both w8 B g v' bv' l' room over') (hf : Fr (Foot g v) wo w8) (ha : Moved v v' wo) (hm : Moved bv bv' wo) :
    RunDone B g v bv room wo (w8.alloc (.cells #[bv', .int .i64 room, .bool over'] 35)) w8.heap.size v' bv' l' over' :=
  ⟨heap_alloc_new _ _, hb.fr (Fr.alloc (Fr.refl _ _) _), hf.alloc _, ha, hm, hf.size⟩

end Go.Proofs.Ytmgdlblifeammaa.StackTop
