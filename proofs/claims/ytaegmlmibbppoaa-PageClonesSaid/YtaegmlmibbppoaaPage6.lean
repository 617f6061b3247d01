/- Proved: what Span of package page does and answers. -/
import Derived.Test.YtaegmlmibbppoaaPage5
namespace Go.Proofs.Ytaegmlmibbppoaa.Page
open Go.RowKit Go.Proofs.Ytaegmlmibbppoaa.H Go.Proofs.Ytaegmlmibbppoaa.Nums Go.Proofs.Ytaegmlmibbppoaa.PagePure
open Go.Shelf
set_option linter.unusedVariables false
attribute [local go_sem] Oper.semAt_some

def spanOk (l : List Int) (m : Int) : Bool := decide (0 ≤ findI l m)
def spanP (l : List Int) (m : Int) : Int := if spanOk l m = true then findI l m else 0
def spanT (l : List Int) (m : Int) : List Int := if spanOk l m = true then spanL l (findI l m).toNat m.toNat else l

set_option maxHeartbeats 6400000 in
theorem span_no (g : Nat) (m : Int) (w : World) (hm : m < 1) (p : Option Addr) :
    Calls Try.prog 12 #[.pointer p, .int .i64 m] w (Same w (.tuple #[.int .i64 0, .bool false])) := by
  go_enter Try.func12, Try.ntmps12
  go_wp2
  refine bodyPost_ret (v := .tuple #[.int .i64 0, .bool false]) (by simp [results, Try.results12, go_sem]) rfl ⟨rfl, ?_⟩
  exact Fr.below (S := No) (by repeat (first | exact Fr.refl _ _ | apply Fr.alloc)) (Nat.le_refl _) (fun _ h => h.elim)

/-- Span's own four blocks -/
structure SF (w W : World) (g m : Nat) (r : Int) (b : Bool) : Prop where
  b0 : W.heap[w.heap.size]? = some (.cells #[.pointer (some ⟨g, 0, none⟩)] 27 (0, 0))
  b1 : W.heap[w.heap.size + 1]? = some (.cells #[.int .i64 m] 3 (0, 0))
  b2 : W.heap[w.heap.size + 1 + 1]? = some (.cells #[.int .i64 r] 3 (0, 0))
  b3 : W.heap[w.heap.size + 1 + 1 + 1]? = some (.cells #[.bool b] 4 (0, 0))
theorem SF.far {w W : World} {g m : Nat} {r : Int} {b : Bool} (h : SF w W g m r b) {d o : Nat} (hd : d < w.heap.size) (v : Value) : SF w (W.setCell ⟨d, o, none⟩ v) g m r b :=
  ⟨far_of h.b0 (by show w.heap.size ≠ d; omega) _, far_of h.b1 (by show w.heap.size + 1 ≠ d; omega) _, far_of h.b2 (by show w.heap.size + 1 + 1 ≠ d; omega) _, far_of h.b3 (by show w.heap.size + 1 + 1 + 1 ≠ d; omega) _⟩
theorem SF.res {w W : World} {g m : Nat} {r : Int} {b : Bool} (h : SF w W g m r b) (r' : Int) (b' : Bool) : SF w ((W.setCell ⟨w.heap.size + 1 + 1, 0, none⟩ (.int .i64 r')).setCell ⟨w.heap.size + 1 + 1 + 1, 0, none⟩ (.bool b')) g m r' b' :=
  ⟨far_of (far_of h.b0 (by show w.heap.size ≠ w.heap.size + 1 + 1; omega) _) (by show w.heap.size ≠ w.heap.size + 1 + 1 + 1; omega) _, far_of (far_of h.b1 (by show w.heap.size + 1 ≠ w.heap.size + 1 + 1; omega) _) (by show w.heap.size + 1 ≠ w.heap.size + 1 + 1 + 1; omega) _, far_of (set_of h.b2 0 _) (by show w.heap.size + 1 + 1 ≠ w.heap.size + 1 + 1 + 1; omega) _, set_of (far_of h.b3 (by show w.heap.size + 1 + 1 + 1 ≠ w.heap.size + 1 + 1; omega) _) 0 _⟩
theorem SF.grown {w W W' : World} {row : Option Nat} {g m : Nat} {r : Int} {b : Bool} (h : SF w W g m r b) (hg : W.grownBy W' row) (hr : ∀ r, row = some r → ∃ o : Obj, W.heap[r]? = some o ∧ o.isCells = false) : SF w W' g m r b :=
  ⟨blk_kept h.b0 hg hr, blk_kept h.b1 hg hr, blk_kept h.b2 hg hr, blk_kept h.b3 hg hr⟩
theorem SF.new (w : World) (g m : Nat) : SF w ((((w.alloc (.cells #[.pointer (some ⟨g, 0, none⟩)] 27)).alloc (.cells #[.int .i64 m] 3)).alloc (.cells #[.int .i64 0] 3)).alloc (.cells #[.bool false] 4)) g m 0 false := by
  have a0 := heap_alloc_new w (.cells #[.pointer (some ⟨g, 0, none⟩)] 27)
  have a1 := heap_alloc_new (w.alloc (.cells #[.pointer (some ⟨g, 0, none⟩)] 27)) (.cells #[.int .i64 m] 3)
  have a2 := heap_alloc_new ((w.alloc (.cells #[.pointer (some ⟨g, 0, none⟩)] 27)).alloc (.cells #[.int .i64 m] 3)) (.cells #[.int .i64 0] 3)
  have a3 := heap_alloc_new (((w.alloc (.cells #[.pointer (some ⟨g, 0, none⟩)] 27)).alloc (.cells #[.int .i64 m] 3)).alloc (.cells #[.int .i64 0] 3)) (.cells #[.bool false] 4)
  simp only [World.size_alloc] at a1 a2 a3
  exact ⟨alloc_of (alloc_of (alloc_of a0 _) _) _, alloc_of (alloc_of a1 _) _, alloc_of a2 _, a3⟩

set_option maxRecDepth 100000 in
set_option maxHeartbeats 12800000 in
theorem span_yes (B g : Nat) (v : Value) (l : List Int) (w : World) (m : Nat) (hm : 1 ≤ m) (hs : T w B g v l) :
    Calls Try.prog 12 #[.pointer (some ⟨g, 0, none⟩), .int .i64 m] w (Upd B g v (spanT l m) (.tuple #[.int .i64 (spanP l m), .bool (spanOk l m)]) w) := by
  obtain ⟨A, c, rfl, _⟩ := hs.own.slice
  have HS := Lib.hid hs
  have HF := Lib.hid (show ∀ k, Foot g (.slice A l.length c) k → k < w.heap.size from fun k hk => (hs.foot_lt k hk).2)
  have hl64 := hs.len
  obtain ⟨n, hn⟩ : ∃ n, n = l.length := ⟨_, rfl⟩
  have HN := Lib.hid hn
  rw [← hn] at HS HF hl64 ⊢
  have im : (1 : Int) ≤ (m : Int) := by omega
  have HM1 := Lib.hid hm
  clear hs hn hm
  refine (callsIn_wide (n := 4)).1 ?_
  refine callsIn_of_wp_marks Try.func12 rfl trivial ?_ rfl
  simp only [Try.ntmps12, List.size_toArray, List.length_cons, List.length_nil, Nat.reduceAdd, Nat.reduceSub, Array.replicate_succ, Array.replicate_zero, List.push_toArray, List.append_toArray, List.nil_append, List.cons_append]
  gi_wp2
  have X1 := Lib.hid (SF.new w g m)
  have F1 := Lib.hid (show Fr No w ((((w.alloc (.cells #[.pointer (some ⟨g, 0, none⟩)] 27)).alloc (.cells #[.int .i64 m] 3)).alloc (.cells #[.int .i64 0] 3)).alloc (.cells #[.bool false] 4)) by repeat (first | exact Fr.refl _ _ | apply Fr.alloc))
  have hz : w.heap.size ≤ ((((w.alloc (.cells #[.pointer (some ⟨g, 0, none⟩)] 27)).alloc (.cells #[.int .i64 m] 3)).alloc (.cells #[.int .i64 0] 3)).alloc (.cells #[.bool false] 4)).heap.size := F1.out.size
  generalize ((((w.alloc (.cells #[.pointer (some ⟨g, 0, none⟩)] 27)).alloc (.cells #[.int .i64 m] 3)).alloc (.cells #[.int .i64 0] 3)).alloc (.cells #[.bool false] 4)) = w1 at X1 F1 hz ⊢
  have S1 := Lib.hid (HS.out.no F1.out)
  refine range_recv (α := Nat × Nat) (n := 4) (by omega) (gf := 28) (rv := .pointer (some ⟨g, 0, none⟩)) rfl (enters_of Try.func28 (by kernel_rfl) rfl) (encs := enc2) (fun _ => rfl) w.heap.size hz
    (fun pre x => ∃ post, runs l = pre ++ x :: post)
    (fun pre W => SF w W g m 0 false ∧ (∀ z ∈ pre, z.2 < m) ∧ Fr No w W)
    (fun co pre W => co = .ret ∧ ∃ p : Nat, findI l m = (p : Int) ∧ p + m ≤ n ∧ SF w W g m p true ∧ T W B g (.slice A n c) (spanL l p m) ∧ Fr (Foot g (.slice A n c)) w W)
    (fun s A A' row h hg hr => ⟨h.1.grown hg (fun r e => (hr r e).2), h.2.1, h.2.2.grown hg (fun k e => .inr (by have := (hr k e).1; omega))⟩)
    (fun co s A A' row h hg hr => by
      obtain ⟨h1, p, h2, h3, h4, h5, h6⟩ := h
      exact ⟨h1, p, h2, h3, h4.grown hg (fun r e => (hr r e).2), h5.grown hg (fun r e => (hr r e).2), h6.grown hg (fun k e => .inr (by have := (hr k e).1; omega))⟩)
    ⟨X1.out, fun z hz => (by cases hz), F1.out⟩ (fun xs => xs = runs l) (fun pre => ∃ post, runs l = pre ++ post)
    (fun y J Jx W hk hJ hY h0 => runs_in 3 (by omega) y w.heap.size B g _ l J Jx hJ hY W (S1.out.kept hk HF.out) HF.out h0)
    (fun x => { tmps := #[.pointer (some ⟨g, 0, none⟩), .int .i64 m, .pointer (some ⟨w.heap.size, 0, none⟩), .pointer (some ⟨w.heap.size + 1, 0, none⟩), .pointer (some ⟨w.heap.size + 1 + 1, 0, none⟩), .pointer (some ⟨w.heap.size + 1 + 1 + 1, 0, none⟩), .int .i64 x.1, .int .i64 x.2, undef, .int .i64 m, .bool (decide ((m : Int) < 1)), .pointer (some ⟨g, 0, none⟩), .func (.func 28) #[.pointer (some ⟨g, 0, none⟩)] #[], .int .i64 x.1, .int .i64 x.2, undef, undef, undef, undef, undef, undef, undef, undef, undef, undef, undef, undef, undef, undef, undef, undef, undef, undef, undef, undef, undef, undef, undef], defers := [] }) ?assign ?body ?done ?stop
  case assign =>
    intro y x W K hK
    simp only [enc2]
    gi_wp2
    exact hK
  case body =>
    rintro y pre x W ⟨post, hv⟩ ⟨hb, hp, hfr⟩
    have HB := Lib.hid hb
    have HP := Lib.hid hp
    have HFR := Lib.hid hfr
    have HV := Lib.hid hv
    have c1 := cell_of hb.b1 0
    obtain ⟨p, q⟩ := x
    have hpq := run_len l pre post _ hv
    dsimp only at hpq ⊢
    have HPQ := Lib.hid hpq
    clear hb hp hfr hv hpq
    by_cases hq : q < m
    · have i1 : (q : Int) < (m : Int) := by omega
      have g1 : decide (q < m) = true := by simpa using hq
      have HQ := Lib.hid hq
      clear hq
      gi_wp2
      exact ⟨KeepsOthers.refl _, Kept.refl _ _, HB.out, fun z hz => (by rw [List.mem_append] at hz; rcases hz with hz | hz; exact HP.out z hz; simp at hz; subst hz; exact HQ.out), HFR.out⟩
    · have i1 : (m : Int) ≤ (q : Int) := by omega
      have g1 : decide (q < m) = false := by simpa using hq
      have HQ := Lib.hid hq
      have HFD : Hid (findI l m = (p : Int)) := Lib.hid (run_first l m HM1.out pre post (p, q) HV.out HP.out (by omega))
      have HPM : Hid (p + m ≤ n) := Lib.hid (by have := HPQ.out; have := HN.out; omega)
      have HTW : Hid (T W B g (.slice A n c) l) := Lib.hid (HS.out.no HFR.out)
      have i0 : (0 : Int) ≤ (p : Int) := Int.natCast_nonneg _
      clear hq
      gi_wp2
      gi_loopw [19] (fun i wr => ∃ j : Nat, j ≤ m ∧ i = .int .i64 j ∧ Hid (SF w wr g m 0 false) ∧ Hid (T wr B g (.slice A n c) (fillL l p j 6)) ∧ Hid (Fr (Foot g (.slice A n c)) w wr) ∧ Hid (KeepsOthers W wr)) (fun i _ => m - (intOf i).toNat)
      case atStart => exact ⟨0, Nat.zero_le _, rfl, HB, Lib.hid (by rw [fillL_zero]; exact HTW.out), Lib.hid (HFR.out.mono (fun _ h => h.elim)), Lib.hid (KeepsOthers.refl _)⟩
      case round =>
        obtain ⟨j, hj, rfl, HB, HT, HFr, HKO⟩ := hrel
        have i2 : (0 : Int) ≤ (j : Int) := Int.natCast_nonneg _
        by_cases hlt : j < m
        · have hfl : (fillL l p j 6).length = n := by rw [fillL_length _ _ _ _ (by have := HPM.out; have := HN.out; omega)]; exact HN.out.symm
          obtain ⟨d, y0, rfl, x0, f0, _⟩ := HT.out.own.cell (p + j) (by rw [hfl]; have := HPM.out; omega)
          have c0 := cell_of HB.out.b0 0
          have c2 := HT.out.cells.2
          have i3 : (j : Int) < (m : Int) := by omega
          have i4 : (p : Int) + (j : Int) < (n : Int) := by have := HPM.out; omega
          have HLT := Lib.hid hlt
          have HST : Hid ((fillL l p j 6).set (p + j) 6 = fillL l p (j + 1) 6) := Lib.hid (fillL_succ l p j 6 (by have := HPM.out; have := HN.out; omega))
          have HD : Hid (d < w.heap.size) := Lib.hid (HF.out d (.inr rfl))
          clear hfl hlt c1
          gi_wp2
          go_roundw
          case rel => exact ⟨j + 1, HLT.out, by go_num, Lib.hid (HB.out.far HD.out _), Lib.hid (by have h := HT.out.put (p + j) 6; rw [HST.out] at h; exact h), Lib.hid (HFr.out.setCell (p := ⟨d, p + j, none⟩) (.inl (.inr rfl)) _), Lib.hid (HKO.out.trans (KeepsOthers.setCell _ _ _))⟩
          case measure => have := HLT.out; simp [intOf]; omega
        · obtain rfl : j = m := by omega
          have hfl : (fillL l p j 6).length = n := by rw [fillL_length _ _ _ _ (by have := HPM.out; have := HN.out; omega)]; exact HN.out.symm
          obtain ⟨d, y0, rfl, x0, f0, _⟩ := HT.out.own.cell p (by rw [hfl]; have := HPM.out; have := HM1.out; omega)
          have c0 := cell_of HB.out.b0 0
          have c2 := HT.out.cells.2
          have c3 := cell_of HB.out.b2 0
          have c4 := cell_of HB.out.b3 0
          have f3 := free_of HB.out.b2 0
          have f4 := free_of HB.out.b3 0
          have i4 : (p : Int) < (n : Int) := by have := HPM.out; have := HM1.out; omega
          have HD : Hid (d < w.heap.size) := Lib.hid (HF.out d (.inr rfl))
          have n1 : d ≠ w.heap.size + 1 + 1 := by have := HD.out; omega
          have n2 : d ≠ w.heap.size + 1 + 1 + 1 := by have := HD.out; omega
          clear hfl hlt c1 hj
          gi_wp2
          have T1 := (HT.out.put p 5)
          have FR1 : Fr (Foot g (.slice (some ⟨d, 0, none⟩) n c)) w (wr.setCell ⟨d, p, none⟩ (.int .i64 5)) := HFr.out.setCell (p := ⟨d, p, none⟩) (.inl (.inr rfl)) _
          have FA : Fr (fun k => w.heap.size ≤ k) (wr.setCell ⟨d, p, none⟩ (.int .i64 5)) (((wr.setCell ⟨d, p, none⟩ (.int .i64 5)).setCell ⟨w.heap.size + 1 + 1, 0, none⟩ (.int .i64 p)).setCell ⟨w.heap.size + 1 + 1 + 1, 0, none⟩ (.bool true)) :=
            ((Fr.refl _ _).setCell (p := ⟨w.heap.size + 1 + 1, 0, none⟩) (.inl (by show w.heap.size ≤ w.heap.size + 1 + 1; omega)) _).setCell (p := ⟨w.heap.size + 1 + 1 + 1, 0, none⟩) (.inl (by show w.heap.size ≤ w.heap.size + 1 + 1 + 1; omega)) _
          exact ⟨((HKO.out.trans (KeepsOthers.setCell _ _ _)).trans (KeepsOthers.setCell _ _ _)).trans (KeepsOthers.setCell _ _ _), rfl, p, HFD.out, HPM.out, (HB.out.far HD.out _).res p true, T1.fr FA (fun k hk h => by have := HF.out k hk; omega), FR1.trans FA (fun i hi => .inr hi)⟩
  case done =>
    rintro D ys W hD rfl ⟨hb, hp, hfr⟩ hK
    have HB := Lib.hid hb
    have HFR := Lib.hid hfr
    have HNF : Hid (findI l m = -1) := Lib.hid (run_none l m HM1.out hp)
    have c3 := cell_of hb.b2 0
    have c4 := cell_of hb.b3 0
    have f3 := free_of hb.b2 0
    have f4 := free_of hb.b3 0
    clear hb hp hfr
    gi_wp2
    have HB2 := HB.out.res 0 false
    have hK' := ((KeepsOthers.setCell W ⟨w.heap.size + 1 + 1, 0, none⟩ (.int .i64 0)).trans (KeepsOthers.setCell _ ⟨w.heap.size + 1 + 1 + 1, 0, none⟩ (.bool false))).same D _ hK rfl
    refine ⟨by simp, .inl ⟨_, _, rfl, run_takeDeferred hK', ?_⟩⟩
    have hg' := grownBy_putObj' ((W.setCell ⟨w.heap.size + 1 + 1, 0, none⟩ (.int .i64 0)).setCell ⟨w.heap.size + 1 + 1 + 1, 0, none⟩ (.bool false)) D (.deferred none)
    have HB3 := HB2.grown hg' (fun r e => by cases e; exact ⟨_, hK', rfl⟩)
    have c5 := cell_of HB3.b2 0
    have c6 := cell_of HB3.b3 0
    have FA : Fr (fun k => w.heap.size ≤ k) W ((W.setCell ⟨w.heap.size + 1 + 1, 0, none⟩ (.int .i64 0)).setCell ⟨w.heap.size + 1 + 1 + 1, 0, none⟩ (.bool false)) :=
      ((Fr.refl _ _).setCell (p := ⟨w.heap.size + 1 + 1, 0, none⟩) (.inl (by show w.heap.size ≤ w.heap.size + 1 + 1; omega)) _).setCell (p := ⟨w.heap.size + 1 + 1 + 1, 0, none⟩) (.inl (by show w.heap.size ≤ w.heap.size + 1 + 1 + 1; omega)) _
    have FB : Fr No w (((W.setCell ⟨w.heap.size + 1 + 1, 0, none⟩ (.int .i64 0)).setCell ⟨w.heap.size + 1 + 1 + 1, 0, none⟩ (.bool false)).putObj D (.deferred none)) := (HFR.out.trans FA (fun i hi => .inr hi)).grown hg' (fun k e => by cases e; exact .inr (by omega))
    have hE : spanOk l m = false := by unfold spanOk; rw [HNF.out]; rfl
    refine ⟨.tuple #[.int .i64 0, .bool false], ?_, ?_, ?_, FB.mono (fun _ h => h.elim)⟩
    · simp at c5 c6
      simp [results, Try.results12, go_sem, c5, c6]
    · unfold spanP; rw [hE]; rfl
    · unfold spanT; rw [hE]; exact HS.out.no FB
  case stop =>
    rintro D c' pre W hD ⟨post, hv⟩ ⟨rfl, p, h1, h2, h3, h4, h5⟩ hK
    gi_wp2
    refine ⟨by simp, .inl ⟨_, _, rfl, run_takeDeferred hK, ?_⟩⟩
    have hg' := grownBy_putObj' W D (.deferred none)
    have HB3 := h3.grown hg' (fun r e => by cases e; exact ⟨_, hK, rfl⟩)
    have HT3 := h4.grown hg' (fun r e => by cases e; exact ⟨_, hK, rfl⟩)
    have c5 := cell_of HB3.b2 0
    have c6 := cell_of HB3.b3 0
    have FB : Fr (Foot g (.slice A n c)) w (W.putObj D (.deferred none)) := h5.grown hg' (fun k e => by cases e; exact .inr (by omega))
    have hE : spanOk l m = true := by unfold spanOk; rw [h1]; simp
    refine ⟨.tuple #[.int .i64 p, .bool true], ?_, ?_, ?_, FB⟩
    · simp at c5 c6
      simp [results, Try.results12, go_sem, c5, c6]
    · unfold spanP; rw [hE, if_pos rfl, h1]
    · unfold spanT; rw [hE, if_pos rfl, h1]; exact HT3

end Go.Proofs.Ytaegmlmibbppoaa.Page
