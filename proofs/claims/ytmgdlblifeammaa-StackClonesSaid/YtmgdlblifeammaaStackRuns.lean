/- Proved: a whole script of package scutagelaw17 answers true; and the law StackRuns over any arguments. -/
import Derived.Test.YtmgdlblifeammaaStackPop
import Derived.Test.YtmgdlblifeammaaStackArg
import Derived.Deep.LoopGhost
import Derived.Outline
namespace Go.Proofs.Ytmgdlblifeammaa.StackRuns
open Go.RowKit Go.Proofs.Ytmgdlblifeammaa.H Go.Proofs.Ytmgdlblifeammaa.Stack Go.Proofs.Ytmgdlblifeammaa.StackLaw Go.Proofs.Ytmgdlblifeammaa.StackRun Go.ChangeShapes Go.WideShapes

set_option maxHeartbeats 1600000 in
theorem same_any (A A' : Option Addr) (c c' : Nat) (l : List (Int × Int)) (w : World) (h : Rd w (.slice A l.length c) l.length 2 (ents l)) (h' : Rd w (.slice A' l.length c') l.length 2 (ents l)) (hl : l.length ≤ 256) :
    Calls Try.prog 15 #[.slice A l.length c, .slice A' l.length c'] w (Quiet w (.bool true)) := by
  have H := Lib.hid h
  have H' := Lib.hid h'
  clear h h'
  go_enter Try.func15, Try.ntmps15
  go_wp2
  go_loopw [5] (fun i wr => ∃ k : Nat, k ≤ l.length ∧ i = .int .i64 k ∧ ∃ n, wr = w.drewN n) (fun i _ => l.length - (intOf i).toNat)
  case atStart => exact ⟨0, Nat.zero_le _, rfl, 0, rfl⟩
  case round =>
    obtain ⟨k, hk, rfl, n, rfl⟩ := hrel
    by_cases hlt : k < l.length
    · obtain ⟨ad, rfl, x0, x1⟩ := rd_at H.out k hlt
      obtain ⟨ad', rfl, y0, y1⟩ := rd_at H'.out k hlt
      have i1 : (0 : Int) ≤ (k : Int) := Int.natCast_nonneg _
      have i2 : (k : Int) < (l.length : Int) := by omega
      go_wp2
      go_quiet (fail)
      go_wp2
      go_roundw
      case rel => exact ⟨k + 1, by omega, by go_num, _, rfl⟩
      case measure => simp [intOf]; omega
    · go_wp2
      go_ret
      exact ⟨rfl, n, rfl⟩

/-- a script's calls, as they lie in memory -/
def calls (l : List (Int × Int × Int)) : List Value := l.flatMap fun p => [.int .i64 p.1, .int .i64 p.2.1, .int .i64 p.2.2]
theorem calls_at (l : List (Int × Int × Int)) (k : Nat) (h : k < l.length) : (calls l)[k * 3]? = some (.int .i64 (l[k]).1) ∧ (calls l)[k * 3 + 1]? = some (.int .i64 (l[k]).2.1) ∧ (calls l)[k * 3 + 2]? = some (.int .i64 (l[k]).2.2) := by
  induction l generalizing k with
  | nil => simp at h
  | cons p l ih =>
    cases k with
    | zero => simp [calls]
    | succ k =>
      have h2 := ih k (by simpa using h)
      have e : calls (p :: l) = .int .i64 p.1 :: .int .i64 p.2.1 :: .int .i64 p.2.2 :: calls l := by simp [calls]
      rw [e, show (k + 1) * 3 = k * 3 + 1 + 1 + 1 by omega]
      simpa using h2
theorem call_at {w : World} {A : Option Addr} {c : Nat} {l : List (Int × Int × Int)} (h : Rd w (.slice A l.length c) l.length 3 (calls l)) (k : Nat) (hk : k < l.length) :
    ∃ ad, A = some ad ∧ w.cell? (ad.add (k * 3)) = some (.int .i64 (l[k]).1) ∧ w.cell? ⟨(ad.add (k * 3)).block, (ad.add (k * 3)).off + 1, none⟩ = some (.int .i64 (l[k]).2.1) ∧ w.cell? ⟨(ad.add (k * 3)).block, (ad.add (k * 3)).off + 2, none⟩ = some (.int .i64 (l[k]).2.2) := by
  rcases h.at_ with ⟨_, h0⟩ | ⟨ad, c', he, _, hc⟩
  · omega
  · injection he with he _ _
    exact ⟨ad, he, hc _ _ (calls_at l k hk).1, by rw [← add_field _ _ _ (by decide)]; exact hc _ _ (calls_at l k hk).2.1, by rw [← add_field _ _ _ (by decide)]; exact hc _ _ (calls_at l k hk).2.2⟩

/-- where a script stands: the book lies in block b -/
structure RunAt (w : World) (B g : Nat) (v bv : Value) (room : Int) (b : Nat) (wr : World) (v' bv' : Value) (l' : List (Int × Int)) (over' : Bool) : Prop where
  book : wr.heap[b]? = some (.cells #[bv', .int .i64 room, .bool over'] 35 (0, 0))
  res : wr.heap[b + 1]? = some (.cells #[.slice none 0 0, .int .i64 0, .bool false] 35 (0, 0))
  both : Both wr B g v' bv' l' room over'
  fr : Fr (Foot g v) w wr
  at_ : v'.ownBlock = v.ownBlock ∨ ∃ k, v'.ownBlock = some k ∧ w.heap.size ≤ k
  bat : Moved bv bv' w

set_option maxRecDepth 100000 in
set_option maxHeartbeats 25600000 in
theorem run_any (B g : Nat) (v bv : Value) (l : List (Int × Int)) (room : Int) (over : Bool) (Ao : Option Addr) (co : Nat) (ops : List (Int × Int × Int)) (w : World) (hs : Both w B g v bv l room over)
    (hB : B ≤ w.heap.size) (hops : ∀ W, Below B w W → Rd W (.slice Ao ops.length co) ops.length 3 (calls ops)) (hl : ops.length ≤ 1000) :
    Calls Try.prog 12 #[.pointer (some ⟨g, 0, none⟩), .agg #[bv, .int .i64 room, .bool over], .slice Ao ops.length co] w (StepPost B g v bv room w) := by
  obtain ⟨A, c, rfl, _⟩ := own_slice hs.row
  have HS := Lib.hid hs
  have HO := Lib.hid hops
  have HN := Lib.hid (show ∀ k, Foot g v k → B ≤ k ∧ k < w.heap.size from hs.stk.foot_lt)
  clear hs hops
  go_enter Try.func12, Try.ntmps12
  go_wp2
  go_loopw [8, 9] (fun ok i wr => ∃ k : Nat, k ≤ ops.length ∧ i = .int .i64 k ∧ ok = .bool true ∧ Hid (∃ v' bv' l' over', RunAt w B g v (.slice A l.length c) room w.heap.size wr v' bv' l' over')) (fun _ i _ => ops.length - (intOf i).toNat)
  case atStart =>
    refine ⟨0, Nat.zero_le _, rfl, rfl, Lib.hid ⟨v, .slice A l.length c, l, over, ?_, ?_, HS.out.fr (by repeat (first | exact Fr.refl _ _ | apply Fr.drewN | apply Fr.drew | apply Fr.alloc)), (by repeat (first | exact Fr.refl _ _ | apply Fr.drewN | apply Fr.drew | apply Fr.alloc)), .inl rfl, .inl rfl⟩⟩
    · exact alloc_of (heap_alloc_new w _) _
    · have h := heap_alloc_new (w.alloc (.cells #[.slice A l.length c, .int .i64 room, .bool over] 35)) (.cells #[.slice none 0 0, .int .i64 0, .bool false] 35)
      rw [show (w.alloc (.cells #[.slice A l.length c, .int .i64 room, .bool over] 35)).heap.size = w.heap.size + 1 by simp] at h
      exact h
  case round =>
    obtain ⟨k, hk, rfl, rfl, HR⟩ := hrel
    obtain ⟨v', bv', l', over', hr⟩ := HR.out
    clear HR
    by_cases hlt : k < ops.length
    · obtain ⟨A', c', rfl, _⟩ := own_slice hr.both.row
      have hbel : Below B w wr := hr.fr.below hB (fun k hk => (HN.out k hk).1)
      obtain ⟨ad, rfl, x0, x1, x2⟩ := call_at (HO.out _ hbel) k hlt
      have k0 : wr.cell? ⟨w.heap.size, 0, none⟩ = some (.slice A' l'.length c') := cell_of hr.book 0
      have k1 : wr.cell? ⟨w.heap.size, 1, none⟩ = some (.int .i64 room) := cell_of hr.book 1
      have k2 : wr.cell? ⟨w.heap.size, 2, none⟩ = some (.bool over') := cell_of hr.book 2
      have i1 : (0 : Int) ≤ (k : Int) := Int.natCast_nonneg _
      have i2 : (k : Int) < (ops.length : Int) := by omega
      have HR := Lib.hid hr
      clear hr hbel
      have hnb : ∀ j, j = w.heap.size ∨ j = w.heap.size + 1 → ¬ Foot g v' j := by
        rintro j hj (h | h)
        · have := (HN.out g (.inl rfl)).2; omega
        · rcases hj with rfl | rfl
          · exact own_ne_blk HR.out.both.stk.own HR.out.book (by decide) h
          · exact own_ne_blk HR.out.both.stk.own HR.out.res (by decide) h
      have HNB := Lib.hid hnb
      clear hnb
      go_wp2_with fail
      go_region_with ((go_at_call 22; refine (step_any B g v' _ l' room over' _ _ _ _ (HR.out.both.fr (by repeat (first | exact Fr.refl _ _ | apply Fr.drewN | apply Fr.drew | apply Fr.alloc)))).mono ?_; rintro e w5 ⟨v5, bv5, l5, over5, rfl, hb5, hf5, hat5, hmv5⟩; obtain ⟨A5, c5, rfl, _⟩ := own_slice hb5.row; have z : w5.heap[w.heap.size]? = some (.cells #[.slice A' l'.length c', .int .i64 room, .bool over'] 35 (0, 0)) := hf5.blk HR.out.book (HNB.out _ (.inl rfl)); have y0 : w5.cell? ⟨w.heap.size, 0, none⟩ = some (.slice A' l'.length c') := cell_of z 0; have y1 : w5.cell? ⟨w.heap.size, 1, none⟩ = some (.int .i64 room) := cell_of z 1; have y2 : w5.cell? ⟨w.heap.size, 2, none⟩ = some (.bool over') := cell_of z 2; have q0 := free_of z 0; have q1 := free_of z 1; have q2 := free_of z 2; have Z := Lib.hid z; have H5 := Lib.hid hb5; have F5 := Lib.hid hf5; have A5' := Lib.hid hat5; have M5 := Lib.hid hmv5; clear z hb5 hf5 hat5 hmv5))
      all_goals
        have hnb5 : ¬ Foot g v5 w.heap.size := by
          rintro (h | h)
          · have := (HN.out g (.inl rfl)).2; omega
          · exact own_ne_blk H5.out.stk.own Z.out (by decide) h
        have hbv5 : (Value.slice A5 l5.length c5).ownBlock ≠ some w.heap.size := own_ne_blk H5.out.row Z.out (by decide)
        have Z6 := Lib.hid (set3_of Z.out (.slice A5 l5.length c5) (.int .i64 room) (.bool over5))
        have F6 : Hid (Fr (fun k => k = w.heap.size) w5 (((w5.setCell ⟨w.heap.size, 0, none⟩ (.slice A5 l5.length c5)).setCell ⟨w.heap.size, 1, none⟩ (.int .i64 room)).setCell ⟨w.heap.size, 2, none⟩ (.bool over5))) :=
          Lib.hid ((((Fr.refl (fun k => k = w.heap.size) w5).setCell (p := ⟨w.heap.size, 0, none⟩) (.inl rfl) _).setCell (p := ⟨w.heap.size, 1, none⟩) (.inl rfl) _).setCell (p := ⟨w.heap.size, 2, none⟩) (.inl rfl) _)
        go_wp2_with fail
        generalize ((w5.setCell ⟨w.heap.size, 0, none⟩ (.slice A5 l5.length c5)).setCell ⟨w.heap.size, 1, none⟩ (.int .i64 room)).setCell ⟨w.heap.size, 2, none⟩ (.bool over5) = w6 at Z6 F6 ⊢
        have H6 : Hid (Both w6 B g v5 (.slice A5 l5.length c5) l5 room over5) := Lib.hid ⟨H5.out.stk.fr F6.out (fun k hk e => hnb5 (by rw [← e]; exact hk)), F6.out.own H5.out.row (fun k hk e => hbv5 (by rw [hk, e])), H5.out.sep⟩
        clear y0 y1 y2 k0 k1 k2 x0 x1 x2
        have y0 : w6.cell? ⟨w.heap.size, 0, none⟩ = some (.slice A5 l5.length c5) := cell_of Z6.out 0
        have y2 : w6.cell? ⟨w.heap.size, 2, none⟩ = some (.bool over5) := cell_of Z6.out 2
        have hl5 : l5.length ≤ 256 := by have := H6.out.stk.len; have := H6.out.stk.r1; omega
        have lt6 : w.heap.size < w6.heap.size := lt_of_blk Z6.out
        have HB6 := Lib.hid hl5
        clear hl5 q0 q1 q2
        have Y0 := Lib.hid y0
        have Y2 := Lib.hid y2
        go_region_held3 (fun w' => w'.cell? ⟨w.heap.size, 0, none⟩ = some (.slice A5 l5.length c5) ∧ w'.cell? ⟨w.heap.size, 2, none⟩ = some (.bool over5))
          (((try go_split_ands); refine ⟨?_, ?_⟩ <;> (first | with_reducible assumption | (with_reducible exact F7.out.cell Y0.out (fun h => h)) | (with_reducible exact F7.out.cell Y2.out (fun h => h)) | (go_keep; done))))
          ((first
            | (go_at_call 17; refine (len_any B g v5 l5 room over5 _ (H6.out.fr (by repeat (first | exact Fr.refl _ _ | apply Fr.drewN | apply Fr.drew | apply Fr.alloc))).stk).mono ?_; rintro e w7 ⟨rfl, n7, rfl⟩)
            | (go_at_call 10; refine (over_any B g v5 l5 room over5 _ (H6.out.fr (by repeat (first | exact Fr.refl _ _ | apply Fr.drewN | apply Fr.drew | apply Fr.alloc))).stk).mono ?_; rintro e w7 ⟨rfl, n7, rfl⟩)
            | (go_at_call 16; refine (all_any B g v5 l5 room over5 _ (H6.out.fr (by repeat (first | exact Fr.refl _ _ | apply Fr.drewN | apply Fr.drew | apply Fr.alloc))).stk).mono ?_; rintro e w7 ⟨v7, rfl, hown7, hb7⟩; obtain ⟨A7, c7, rfl, _⟩ := own_slice hown7; have F7 := Lib.hid (show Fr No w6 w7 from Fr.then_below (by repeat (first | exact Fr.refl _ _ | apply Fr.drewN | apply Fr.drew | apply Fr.alloc)) hb7); have O7 := Lib.hid hown7; clear hown7 hb7)
            | (go_at_call 15; refine (same_any A7 A5 c7 c5 l5 _ (Rd.of_own (Fr.own (S := No) (w := w7) (by repeat (first | exact Fr.refl _ _ | apply Fr.drewN | apply Fr.drew | apply Fr.alloc)) O7.out (fun _ _ h => h)) (ents_one l5)) (Rd.of_own (Fr.own (S := No) (w := w7) (by repeat (first | exact Fr.refl _ _ | apply Fr.drewN | apply Fr.drew | apply Fr.alloc)) (F7.out.own H6.out.row (fun _ _ h => h)) (fun _ _ h => h)) (ents_one l5)) HB6.out).mono ?_; rintro e w8 ⟨rfl, n8, rfl⟩)))
        go_wp2
        go_roundw
        case rel =>
          have G5 : Fr (Foot g v') wr w5 := ⟨F5.out.os, F5.out.tape, F5.out.output, F5.out.size, F5.out.block⟩
          have hfoot : ∀ i, Foot g v' i → Foot g v i ∨ w.heap.size ≤ i := by
            rintro i (h | h)
            · exact .inl (.inl h)
            · rcases HR.out.at_ with h2 | ⟨j, h2, h3⟩
              · exact .inl (.inr (by rw [← h2]; exact h))
              · rw [h2] at h; injection h with h; exact .inr (by omega)
          have hz := HR.out.fr.size
          refine ⟨k + 1, by omega, by go_num, rfl, Lib.hid ⟨v5, .slice A5 l5.length c5, l5, over5, ?_, ?_, ?_, ?_, ?_, ?_⟩⟩
          · exact F7.out.blk Z6.out (fun h => h)
          · exact F7.out.blk (F6.out.blk (G5.blk HR.out.res (HNB.out _ (.inr rfl))) (by omega)) (fun h => h)
          · exact H6.out.fr (F7.out.drewN n8)
          · exact (((HR.out.fr.trans G5 hfoot).trans F6.out (fun i hi => .inr (by omega))).trans (F7.out.drewN n8) (fun i (h : No i) => h.elim))
          · rcases A5'.out with h | ⟨j, h, h2⟩
            · rcases HR.out.at_ with h3 | ⟨j, h3, h4⟩
              · exact .inl (h.trans h3)
              · exact .inr ⟨j, h.trans h3, h4⟩
            · exact .inr ⟨j, h, by simp at h2; omega⟩
          · rcases M5.out with h | ⟨j, h, h2⟩
            · rcases HR.out.bat with h3 | ⟨j, h3, h4⟩
              · exact .inl (h.trans h3)
              · exact .inr ⟨j, h.trans h3, h4⟩
            · exact .inr ⟨j, h, by simp at h2; omega⟩
        case measure => simp [intOf]; omega
    · obtain rfl : k = ops.length := by omega
      obtain ⟨A', c', rfl, _⟩ := own_slice hr.both.row
      have k0 : wr.cell? ⟨w.heap.size, 0, none⟩ = some (.slice A' l'.length c') := cell_of hr.book 0
      have k1 : wr.cell? ⟨w.heap.size, 1, none⟩ = some (.int .i64 room) := cell_of hr.book 1
      have k2 : wr.cell? ⟨w.heap.size, 2, none⟩ = some (.bool over') := cell_of hr.book 2
      have z0 : wr.cell? ⟨w.heap.size + 1, 0, none⟩ = some (.slice none 0 0) := cell_of hr.res 0
      have z1 : wr.cell? ⟨w.heap.size + 1, 1, none⟩ = some (.int .i64 0) := cell_of hr.res 1
      have z2 : wr.cell? ⟨w.heap.size + 1, 2, none⟩ = some (.bool false) := cell_of hr.res 2
      have q0 := free_of hr.res 0
      have q1 := free_of hr.res 1
      have q2 := free_of hr.res 2
      have HR := Lib.hid hr
      clear hr hk hlt
      go_wp2
      refine bodyPost_ret (res_ct rfl _ _ (w.heap.size + 1) 35 #[.slice A' l'.length c', .int .i64 room, .bool over'] _ rfl (by repeat (first | exact set3_of HR.out.res _ _ _ | apply alloc_of | apply drewN_of | apply drew_of)) Try.underlying35 rfl (by kernel_rfl)) rfl ?_
      have hz := HR.out.fr.size
      have hlt := lt_of_blk HR.out.res
      refine StepPost.fr (step_close (b := w.heap.size + 1) (l' := l') (x := .slice A' l'.length c') (y := .int .i64 room) (z := .bool over') HR.out.fr HR.out.both.stk HR.out.at_ HR.out.bat HR.out.both.row HR.out.both.sep (by omega) ?_ ?_) ?_
      · rintro (h | h)
        · have := (HN.out g (.inl rfl)).2; omega
        · exact own_ne_blk HR.out.both.stk.own HR.out.res (by decide) h
      · exact own_ne_blk HR.out.both.row HR.out.res (by decide)
      · exact (by repeat (first | exact Fr.refl _ _ | apply Fr.drewN | apply Fr.drew | apply Fr.alloc))

end Go.Proofs.Ytmgdlblifeammaa.StackRuns
