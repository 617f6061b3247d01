/- Proved: the walk over a table's runs of free pages, and what Count, Longest and Span do and answer. -/
import Derived.Test.YtaegmlmibbppoaaPage3
import Derived.RangeFuncNested
import Derived.RangeFuncBound
import Derived.RangeFuncCalls
import Derived.RangeFuncLeaves
import Derived.RangeFuncFrom
import Derived.RangeFuncBox
import Derived.WalkKit
import Derived.OwnWalkIn
import Derived.TacticsInMore
import Derived.LoopNIn
import Derived.LoopIn
import Derived.StillTailTactics
import Derived.OrdersIn
namespace Go.Proofs.Ytaegmlmibbppoaa.Page
open Go.RowKit Go.Proofs.Ytaegmlmibbppoaa.H Go.Proofs.Ytaegmlmibbppoaa.Nums Go.Proofs.Ytaegmlmibbppoaa.PagePure
set_option linter.unusedVariables false

/-- blocks below N0 are kept -/
def Kept (N0 : Nat) (A B : World) : Prop := ∀ k, k < N0 → B.heap[k]? = A.heap[k]?
theorem Kept.refl (N0 : Nat) (A : World) : Kept N0 A A := fun _ _ => rfl
theorem Kept.trans {N0 : Nat} {A B C : World} (h : Kept N0 A B) (k : Kept N0 B C) : Kept N0 A C := fun i h1 => (k i h1).trans (h i h1)
theorem Kept.put {N0 l : Nat} (W : World) (o' : Obj) (h : N0 ≤ l) : Kept N0 W (W.putObj l o') := fun k hk => World.putObj_heap_other (by omega)
theorem Kept.set {N0 b o : Nat} (W : World) (v : Value) (h : N0 ≤ b) : Kept N0 W (W.setCell ⟨b, o, none⟩ v) := fun k hk => Below.heap_setCell W _ v k (by simp; omega)
theorem grown_drewN (W : World) (n : Nat) : W.grownBy (W.drewN n) none := ⟨rfl, rfl, rfl, Nat.le_refl _, fun _ _ _ => rfl⟩

/-- a statement 'for .. := range x.m', m a method of a value at hand: x goes ahead of the round's function -/
theorem range_recv {P : Program} {α : Type} {n : Nat} {g : Operand} {ps : Array Tmp} {assign body : Code} {Q : Exit → Act → World → Prop} {a : Act} {w : World} (h1 : 1 ≤ n) {gf : Nat} {rv : Value}
    (hg : a.eval g = .func (.func gf) #[rv] #[]) (eg : ∀ args w, (callFunc gf args).run P w = .ok (.enter gf args) w) {encs : α → Array Value} (hps : ∀ x, (encs x).size = ps.size) (N0 : Nat) (hN : N0 ≤ w.heap.size)
    (V : List α → α → Prop) (I : List α → World → Prop) (Ix : Code → List α → World → Prop) (hI : OwnFrom w.heap.size I) (hIx : ∀ c, OwnFrom w.heap.size (Ix c)) (h0 : I [] w) (S Sp : List α → Prop)
    (hseq : ∀ (y : Nat) (J Jx : List α → World → Prop) (W : World), Kept N0 w W → (∀ s A q, J s A → J s (A.drewN q)) →
      (∀ pre x A, V pre x → J pre A → YieldAt Fence.wide (n - 1 - 1) P y (encs x) A fun e A' => (e = .returned (.bool true) ∧ J (pre ++ [x]) A' ∧ Kept N0 A A') ∨ (e = .returned (.bool false) ∧ Jx (pre ++ [x]) A')) → J [] W →
      CallsIn Fence.wide (n - 1) P gf #[rv, .func (.yield y) #[] #[]] W fun e W' => (∃ v, e = .returned v) ∧ ((∃ xs, S xs ∧ J xs W') ∨ (∃ pre, Sp pre ∧ Jx pre W')))
    (act : α → Act)
    (hassign : ∀ (y : Nat) (x : α) (W : World) (K : Act → World → Prop), K (act x) W → assign.wpIn (Fence.wide.inRound y) (n - 1 - 1) P (Exit.then K (fun _ _ _ => False)) { tmps := (ps.zip (encs x)).foldl (fun t (p, v) => t.setIfInBounds p v) a.tmps, defers := [] } W)
    (hbody : ∀ (y : Nat) (pre : List α) (x : α) (W : World), V pre x → I pre W → body.wpIn (Fence.wide.inRound y) (n - 1 - 1) P (ownPostK (Kept N0) I Ix (pre ++ [x]) W) (act x) W)
    (hdone : ∀ (D : Nat) (xs : List α) (W : World), w.heap.size ≤ D → S xs → I xs W → W.heap[D]? = some (.deferred (some [])) → Q .normal { a with defers := { target := .collected D, args := #[] } :: a.defers } W)
    (hstop : ∀ (D : Nat) (c : Code) (pre : List α) (W : World), w.heap.size ≤ D → Sp pre → Ix c pre W → W.heap[D]? = some (.deferred (some [])) → c.wpIn Fence.wide n P Q { a with defers := { target := .collected D, args := #[] } :: a.defers } W) :
    (Code.rangeFunc g ps assign body).wpIn Fence.wide n P Q a w := by
  refine wpIn_rangeFunc (fun fn hfn => ?_)
  let rec_ : LoopState → Option Code → Loop := fun st pe => { state := st, pending := pe, fn, tmps := a.tmps, params := ps, assign, body, defers := w.heap.size }
  let D := w.heap.size
  let L := w.heap.size + 1
  let W1 := (w.alloc (.deferred (some []))).alloc (.loop (rec_ .ready none))
  have hL : W1.heap[L]? = some (.loop (rec_ .ready none)) := by
    have := World.alloc_heap_new (w.alloc (.deferred (some []))) (.loop (rec_ .ready none)); rwa [World.size_alloc] at this
  have hD : W1.heap[D]? = some (.deferred (some [])) := (Below.heap_alloc _ _ _ (by simp [D])).trans (World.alloc_heap_new w _)
  have hI1 : I [] W1 := hI.alloc _ (hI.alloc _ h0)
  have hK1 : Kept N0 w W1 := fun k hk => (Below.heap_alloc (w.alloc (.deferred (some []))) _ k (by simp; omega)).trans (Below.heap_alloc w _ k (by omega))
  refine ⟨L, [{ target := .collected D, args := #[] }], W1, { target := .fn (.func gf) #[], args := #[rv, .func (.yield L) #[] #[]] }, W1, gf, #[rv, .func (.yield L) #[] #[]], W1, run_enterLoop_outer _ _ _ _ _, ?_, ?_, ?_, fun _ => h1, ?_⟩
  · simp only [resolve, hg]
    simp [go_sem]
  · intro f' hf'
    simp [Target.leads] at hf'
    subst hf'
    trivial
  · simp [invoke, go_sem, eg]
  · refine (hseq L (fun pre W => I pre W ∧ W.heap[L]? = some (.loop (rec_ .ready none)) ∧ W.heap[D]? = some (.deferred (some [])))
      (fun pre W => ∃ c, Ix c pre W ∧ W.heap[L]? = some (.loop (rec_ .done (some c))) ∧ W.heap[D]? = some (.deferred (some []))) W1 hK1 (fun s A q h => ⟨hI s A _ none h.1 (grown_drewN A q) (fun r e => by cases e), h.2⟩) ?_ ⟨hI1, hL, hD⟩).mono ?_
    · rintro pre x W hv ⟨hi, hl, hd⟩
      have hlt : L < W.heap.size := lt_of_blk hl
      refine ⟨fn, _, assign, body, run_yield hl (hps x), roundIn_of_wpIn hfn (hassign _ x W _ ⟨_, run_beginRound hl rfl, ?_⟩)⟩
      let Wb := W.putObj L (.loop { rec_ .ready none with state := .busy })
      have hlb : Wb.heap[L]? = some (.loop { rec_ .ready none with state := .busy }) := World.putObj_heap_same hlt
      have hdb : Wb.heap[D]? = some (.deferred (some [])) := (World.putObj_heap_other (by simp [L, D])).trans hd
      have hkb : Kept N0 W Wb := Kept.put W _ (by simp only [L]; omega)
      have hib : I pre Wb := hI.putObj _ hi (by simp [L]) hl rfl
      refine wpIn_mono (hbody _ pre x Wb hv hib) ?_
      have close : ∀ (jump : Option Code) (W3 : World), KeepsOthers Wb W3 → W3.heap[L]? = some (.loop { rec_ .ready none with state := .busy }) ∧
          (Instr.endRound L jump).run P W3 = .ok (.bool jump.isNone) (W3.putObj L (.loop (rec_ (if jump.isNone then .ready else .done) jump))) ∧
          (W3.putObj L (.loop (rec_ (if jump.isNone then .ready else .done) jump))).heap[L]? = some (.loop (rec_ (if jump.isNone then .ready else .done) jump)) ∧
          (W3.putObj L (.loop (rec_ (if jump.isNone then .ready else .done) jump))).heap[D]? = some (.deferred (some [])) := fun jump W3 hk3 => by
        have hl3 := hk3.same _ _ hlb rfl
        exact ⟨hl3, run_endRound jump hl3, World.putObj_heap_same (lt_of_blk hl3), (World.putObj_heap_other (by simp [L, D])).trans (hk3.same _ _ hdb rfl)⟩
      have away : ∀ (c : Code) (W3 : World), KeepsOthers Wb W3 → Ix c (pre ++ [x]) W3 →
          ∃ (v : Value) (W4 : World), (Instr.endRound L (some c)).run P W3 = .ok v W4 ∧ ((Ending.returned v = .returned (.bool true) ∧ (I (pre ++ [x]) W4 ∧ W4.heap[L]? = some (.loop (rec_ .ready none)) ∧ W4.heap[D]? = some (.deferred (some []))) ∧ Kept N0 W W4) ∨
            (Ending.returned v = .returned (.bool false) ∧ ∃ c, Ix c (pre ++ [x]) W4 ∧ W4.heap[L]? = some (.loop (rec_ .done (some c))) ∧ W4.heap[D]? = some (.deferred (some [])))) := fun c W3 hk3 hi3 => by
        obtain ⟨hl3, hr, hl4, hd4⟩ := close (some c) W3 hk3
        exact ⟨_, _, hr, .inr ⟨rfl, c, (hIx _).putObj _ hi3 (by simp [L]) hl3 rfl, hl4, hd4⟩⟩
      rintro e a3 W3 hp
      cases e with
      | normal =>
        obtain ⟨hk3, hkp3, hi3⟩ := hp
        obtain ⟨hl3, hr, hl4, hd4⟩ := close none W3 hk3
        exact ⟨_, _, hr, .inl ⟨rfl, ⟨hI.putObj _ hi3 (by simp [L]) hl3 rfl, hl4, hd4⟩, (hkb.trans hkp3).trans (Kept.put W3 _ (by simp only [L]; omega))⟩⟩
      | ret => exact away .ret W3 hp.1 hp.2
      | exit id => exact away (.exit id) W3 hp.1 hp.2
      | goto t => exact away (.goto t) W3 hp.1 hp.2
      | panic ch => exact hp.elim
      | outgrown => exact hp.elim
    · rintro e W2 ⟨⟨v, rfl⟩, (⟨xs, hS, hi, hl, hd⟩ | ⟨pre, hSp, c, hi, hl, hd⟩)⟩
      · exact ⟨none, _, run_endLoop hl (by simp [rec_]), hdone _ xs _ (Nat.le_refl _) hS (hI.putObj _ hi (by simp [L]) hl rfl) ((World.putObj_heap_other (by simp [L, D])).trans hd)⟩
      · exact ⟨some c, _, run_endLoop hl (by simp [rec_]), hstop _ c pre _ (Nat.le_refl _) hSp ((hIx c).putObj _ hi (by simp [L]) hl rfl) ((World.putObj_heap_other (by simp [L, D])).trans hd)⟩

theorem own_kept {N0 : Nat} {w w' : World} {B : Nat} {v : Value} {l : List Int} (h : Nums.Own w B v l) (hk : Kept N0 w w') (hn : ∀ k, v.ownBlock = some k → k < N0) : Nums.Own w' B v l := by
  refine ⟨h.1, ?_⟩
  rcases h.2 with h2 | ⟨d, cap, cur, rfl, hb, hh, r⟩
  · exact .inl h2
  · exact .inr ⟨d, cap, cur, rfl, hb, (hk d (hn d (by simp [Value.ownBlock]))).trans hh, r⟩
theorem T.kept {N0 : Nat} {w w' : World} {B g : Nat} {v : Value} {l : List Int} (h : T w B g v l) (hk : Kept N0 w w') (hn : ∀ k, Foot g v k → k < N0) : T w' B g v l :=
  ⟨(hk g (hn g (.inl rfl))).trans h.blk, own_kept h.own hk (fun k e => hn k (.inr e)), h.base, h.len⟩
def enc2 (x : Nat × Nat) : Array Value := #[.int .i64 x.1, .int .i64 x.2]

set_option maxRecDepth 100000 in
set_option maxHeartbeats 6400000 in
/-- the runs of a table, for every round's body that keeps what lay below N0 -/
theorem runs_in (n : Nat) (hn : 1 ≤ n) (y N0 B g : Nat) (v : Value) (l : List Int) (J Jx : List (Nat × Nat) → World → Prop) (hJ : ∀ s A q, J s A → J s (A.drewN q))
    (hY : ∀ pre x A, (∃ post, runs l = pre ++ x :: post) → J pre A → YieldAt Fence.wide (n - 1) Try.prog y (enc2 x) A fun e A' => (e = .returned (.bool true) ∧ J (pre ++ [x]) A' ∧ Kept N0 A A') ∨ (e = .returned (.bool false) ∧ Jx (pre ++ [x]) A'))
    (W : World) (hT : T W B g v l) (hF : ∀ k, Foot g v k → k < N0) (h0 : J [] W) :
    CallsIn Fence.wide n Try.prog 28 #[.pointer (some ⟨g, 0, none⟩), .func (.yield y) #[] #[]] W fun e W' => (∃ v, e = .returned v) ∧
      ((∃ xs, xs = runs l ∧ J xs W') ∨ (∃ pre, (∃ post, runs l = pre ++ post) ∧ Jx pre W')) := by
  obtain ⟨A, c, rfl, _⟩ := hT.own.slice
  have c1 := hT.cells.2
  have hl := hT.len
  have HT := Lib.hid hT
  have HF := Lib.hid hF
  have HY := Lib.hid hY
  have HJ := Lib.hid hJ
  have H0 := Lib.hid h0
  obtain ⟨m, hm⟩ : ∃ m, m = l.length := ⟨_, rfl⟩
  rw [← hm] at c1 hl HT HF
  have HM := Lib.hid hm
  clear hT hF hY hJ h0 hm
  refine callsIn_of_wp Try.func28 rfl trivial ?_ rfl
  simp only [Try.ntmps28, List.size_toArray, List.length_cons, List.length_nil, Nat.reduceAdd, Nat.reduceSub, Array.replicate_succ, Array.replicate_zero, List.push_toArray, List.append_toArray, List.nil_append, List.cons_append]
  gi_wp2
  gi_loopw [4, 14] (fun s i wr => ∃ k q : Nat, k ≤ m + 1 ∧ q ≤ k ∧ (k = m + 1 → q = 0) ∧ i = .int .i64 k ∧ s = .int .i64 q ∧ Hid (∃ pre, J pre wr ∧ pre ++ runsAux (l.drop k) k q = runs l) ∧ Hid (Kept N0 W wr)) (fun _ i _ => m + 1 - (intOf i).toNat)
  case atStart => exact ⟨0, 0, Nat.zero_le _, Nat.le_refl _, fun _ => rfl, rfl, rfl, Lib.hid ⟨[], H0.out, rfl⟩, Lib.hid (Kept.refl _ _)⟩
  case round =>
    obtain ⟨k, q, hk, hq, hkq, rfl, rfl, HP, HK⟩ := hrel
    have i1 : (0 : Int) ≤ (k : Int) := Int.natCast_nonneg _
    have i3 : (0 : Int) ≤ (q : Int) := Int.natCast_nonneg _
    by_cases hlt : k < m + 1
    · have i2 : (k : Int) < (m : Int) + 1 := by omega
      obtain ⟨z, hz⟩ : ∃ z, kindL l (k : Int) = z := ⟨_, rfl⟩
      have HZ := Lib.hid hz
      have HLT := Lib.hid hlt
      have HTr : Hid (T wr B g (.slice A m c) l) := Lib.hid (HT.out.kept HK.out HF.out)
      obtain ⟨pre, hj, hpre⟩ := HP.out
      by_cases h0 : z = 0
      · subst h0
        have hkm : k < m := by
          apply Classical.byContradiction
          intro hc
          rw [kindL_past l _ (.inr (by rw [← HM.out]; omega))] at hz
          omega
        have hst := runs_step l k q _ (List.getElem?_eq_getElem (by rw [← HM.out]; exact hkm))
        rw [if_pos (by rw [← kindL_at l k _ (List.getElem?_eq_getElem (by rw [← HM.out]; exact hkm))]; exact hz)] at hst
        have HS : Hid (pre ++ runsAux (l.drop (k + 1)) (k + 1) (q + 1) = runs l) := Lib.hid (by rw [← hpre, hst])
        have HJ1 := Lib.hid hj
        have HKM := Lib.hid hkm
        clear hst hz hkm hj hpre HP hlt hkq
        gi_wp2_with (first | (refine ⟨trivial, ?_⟩; gi_at_call 19; refine (callsIn_wide.2 (kind_any B g _ l (k : Int) 0 HZ.out _ HTr.out)).mono ?_; rintro e3 w3 ⟨rfl, n3, hw3⟩; have HJ3 : Hid (J pre w3) := Lib.hid (by rw [hw3]; exact HJ.out _ _ _ HJ1.out); have HK3 : Hid (Kept N0 W w3) := Lib.hid (HK.out.trans (by rw [hw3]; exact fun _ _ => rfl)); clear hw3) | fail)
        go_roundw
        case rel => exact ⟨k + 1, q + 1, by have := HLT.out; omega, by omega, fun h => by have := HKM.out; omega, by go_num, by go_num, Lib.hid ⟨pre, HJ3.out, HS.out⟩, HK3⟩
        case measure => have := HLT.out; simp [intOf]; omega
      · have hst : runsAux (l.drop k) k q = (if q = 0 then [] else [(k - q, q)]) ++ runsAux (l.drop (k + 1)) (k + 1) 0 := by
          by_cases hkm : k < m
          · have := runs_step l k q _ (List.getElem?_eq_getElem (by rw [← HM.out]; exact hkm))
            rw [if_neg (by rw [← kindL_at l k _ (List.getElem?_eq_getElem (by rw [← HM.out]; exact hkm)), hz]; exact h0)] at this
            exact this
          · obtain rfl : k = l.length := by have := HM.out; omega
            rw [runs_end, List.drop_eq_nil_of_le (by omega)]
            simp [runsAux]
        have g1 : (z == 0) = false := by rw [beq_eq_false_iff_ne]; exact h0
        by_cases hq0 : q = 0
        · rw [if_pos hq0, List.nil_append] at hst
          have i4 : (q : Int) ≤ 0 := by omega
          have i5 : decide (0 < q) = false := by simp; omega
          have HS : Hid (pre ++ runsAux (l.drop (k + 1)) (k + 1) 0 = runs l) := Lib.hid (by rw [← hpre, hst])
          have HJ1 := Lib.hid hj
          clear hst hz h0 hj hpre HP hlt hq hkq hq0
          gi_wp2_with (first | (refine ⟨trivial, ?_⟩; gi_at_call 19; refine (callsIn_wide.2 (kind_any B g _ l (k : Int) z HZ.out _ HTr.out)).mono ?_; rintro e3 w3 ⟨rfl, n3, hw3⟩; have HJ3 : Hid (J pre w3) := Lib.hid (by rw [hw3]; exact HJ.out _ _ _ HJ1.out); have HK3 : Hid (Kept N0 W w3) := Lib.hid (HK.out.trans (by rw [hw3]; exact fun _ _ => rfl)); clear hw3) | fail)
          refine ⟨fun f h => (by cases h), ?_⟩
          gi_wp2
          go_roundw
          case rel => exact ⟨k + 1, 0, by have := HLT.out; omega, by omega, fun _ => rfl, by go_num, rfl, Lib.hid ⟨pre, HJ3.out, HS.out⟩, HK3⟩
          case measure => have := HLT.out; simp [intOf]; omega
        · rw [if_neg hq0] at hst
          have HS : Hid ((pre ++ [(k - q, q)]) ++ runsAux (l.drop (k + 1)) (k + 1) 0 = runs l) := Lib.hid (by rw [← hpre, hst, List.append_assoc])
          have HJ1 := Lib.hid hj
          have i4 : (0 : Int) < (q : Int) := by omega
          have i5 : decide (0 < q) = true := by simp; omega
          have HE : Hid (((k - q : Nat) : Int) = (k : Int) - (q : Int)) := Lib.hid (by omega)
          have i6 : (q : Int) ≤ (k : Int) := by omega
          clear hst hz h0 hj hpre HP hlt hq hq0 hkq
          gi_wp2_with (first | (refine ⟨trivial, ?_⟩; gi_at_call 19; refine (callsIn_wide.2 (kind_any B g _ l (k : Int) z HZ.out _ HTr.out)).mono ?_; rintro e3 w3 ⟨rfl, n3, hw3⟩; have HJ3 : Hid (J pre w3) := Lib.hid (by rw [hw3]; exact HJ.out _ _ _ HJ1.out); have HK3 : Hid (Kept N0 W w3) := Lib.hid (HK.out.trans (by rw [hw3]; exact fun _ _ => rfl)); clear hw3; have hY' := HY.out pre (k - q, q) w3 ⟨_, by rw [← HS.out, List.append_assoc]; rfl⟩ HJ3.out; unfold enc2 at hY'; dsimp only at hY'; rw [HE.out] at hY'; obtain ⟨fn, tmps, assign, body, hy, hR⟩ := hY'; have HRR := Lib.hid hR; clear hR) | fail)
          refine HRR.out.mono ?_
          rintro e W3 (⟨rfl, hJ3, hk3⟩ | ⟨rfl, hJx3⟩)
          · have HJ4 := Lib.hid hJ3
            have HK4 := Lib.hid (HK3.out.trans hk3)
            clear hJ3 hk3 hy
            gi_wp2
            go_roundw
            case rel => exact ⟨k + 1, 0, by have := HLT.out; omega, by omega, fun _ => rfl, by go_num, rfl, Lib.hid ⟨_, HJ4.out, HS.out⟩, HK4⟩
            case measure => have := HLT.out; simp [intOf]; omega
          · have HJ4 := Lib.hid hJx3
            clear hJx3 hy
            gi_wp2
            refine bodyPost_ret (results_none rfl _ _ _) rfl ?_
            exact ⟨⟨_, rfl⟩, .inr ⟨_, ⟨_, HS.out.symm⟩, HJ4.out⟩⟩
    · obtain rfl : k = m + 1 := by omega
      have i2 : (m : Int) + 1 ≤ ((m + 1 : Nat) : Int) := by omega
      have HQ := Lib.hid HP.out
      have HKQ := Lib.hid (hkq rfl)
      clear HP hlt hk hkq
      gi_wp2
      go_end0
      obtain ⟨pre, hj, hpre⟩ := HQ.out
      rw [List.drop_eq_nil_of_le (by rw [← HM.out]; omega), HKQ.out] at hpre
      simp [runsAux] at hpre
      exact ⟨⟨_, rfl⟩, .inl ⟨_, hpre, hj⟩⟩

end Go.Proofs.Ytaegmlmibbppoaa.Page
