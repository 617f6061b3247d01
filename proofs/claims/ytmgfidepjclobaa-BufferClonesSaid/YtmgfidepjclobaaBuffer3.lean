/- Proved: what taking, telling, clearing, making and copying of buffers does and answers; and of buffers that nobody made. -/
import Derived.Test.YtmgfidepjclobaaBuffer2
namespace Go.Proofs.Ytmgfidepjclobaa.Buffer
open Go.RowKit Go.Proofs.Ytmgfidepjclobaa.H Go.Proofs.Ytmgfidepjclobaa.Nums

def okPut (D : List (List Int)) (t a : Int) : Bool := decide (0 ≤ t) && decide (t < (D.length : Int)) && decide (0 ≤ a) && decide (a < 2048) && !decide (a ∈ getI D t)
def putD (D : List (List Int)) (t a : Int) : List (List Int) := if okPut D t a = true then D.set t.toNat (getI D t ++ [a]) else D
theorem put_any (B g : Nat) (v : Value) (L : List Ln) (t a : Int) (hl : ∀ p ∈ dat L, p.length ≤ 1000000) (w : World) (hs : Bufs w B g v L) :
    Calls Try.prog 11 #[.pointer (some ⟨g, 0, none⟩), .int .i64 t, .int .i64 a] w (Post B g v L (putD (dat L) t a) (.bool (okPut (dat L) t a)) w) := by
  have hdl := dat_length L
  by_cases ht : t < 0 ∨ (L.length : Int) ≤ t
  · have e : okPut (dat L) t a = false := by
      unfold okPut
      rw [hdl]
      rcases ht with h | h
      · rw [decide_eq_false (show ¬ 0 ≤ t by omega)]; rfl
      · rw [decide_eq_false (show ¬ t < (L.length : Int) by omega)]; simp
    unfold putD
    rw [e]
    exact (put_out B g v L t a ht w hs).mono (fun x w' h => Post.quiet hs h)
  obtain ⟨k, rfl⟩ := Int.eq_ofNat_of_zero_le (show 0 ≤ t by omega)
  have hk : k < L.length := by omega
  by_cases ha : a < 0 ∨ 2048 ≤ a
  · have e : okPut (dat L) (k : Int) a = false := by
      unfold okPut
      rcases ha with h | h
      · rw [decide_eq_false (show ¬ 0 ≤ a by omega)]; simp
      · rw [decide_eq_false (show ¬ a < 2048 by omega)]; simp
    unfold putD
    rw [e]
    exact (put_far B g v L k hk a ha w hs).mono (fun x w' h => Post.quiet hs h)
  have hle : (L[k]).2.length ≤ 1000000 := hl _ (List.mem_map.2 ⟨_, List.getElem_mem hk, rfl⟩)
  by_cases hm : a ∈ (L[k]).2
  · have e : okPut (dat L) (k : Int) a = false := by
      unfold okPut
      rw [getI_in L k hk, decide_eq_true hm]; simp
    unfold putD
    rw [e]
    exact (put_has B g v L k hk a (by omega) hm hle w hs).mono (fun x w' h => Post.quiet hs h)
  · have e : okPut (dat L) (k : Int) a = true := by
      unfold okPut
      rw [getI_in L k hk, decide_eq_false hm, hdl]
      simp
      omega
    unfold putD
    rw [e, if_pos rfl, getI_in L k hk]
    exact put_yes B g v L k hk a (by omega) hm hle w hs

/-- what a taking comes to -/
def inD (D : List (List Int)) (t : Int) : Bool := decide (0 ≤ t) && decide (t < (D.length : Int))
def takeD (D : List (List Int)) (t : Int) : List (List Int) := if inD D t = true then D.set t.toNat [] else D
def TakePost (B g : Nat) (v : Value) (L : List Ln) (t : Int) (w : World) (x : Ending) (w' : World) : Prop :=
  ∃ u L', x = .returned u ∧ Own w' B u (getI (dat L) t) ∧ dat L' = takeD (dat L) t ∧ Bufs w' B g v L' ∧ Fr (Foot g v L) w w' ∧ (∀ k, Foot g v L' k → Foot g v L k) ∧ (∀ k, u.ownBlock = some k → Foot g v L k ∧ ¬ Foot g v L' k)

set_option maxHeartbeats 3200000 in
theorem take_any (B g : Nat) (v : Value) (L : List Ln) (t : Int) (w : World) (hs : Bufs w B g v L) :
    Calls Try.prog 12 #[.pointer (some ⟨g, 0, none⟩), .int .i64 t] w (TakePost B g v L t w) := by
  have hdl := dat_length L
  by_cases ht : t < 0 ∨ (L.length : Int) ≤ t
  · have e : takeD (dat L) t = dat L ∧ getI (dat L) t = [] := by
      unfold takeD inD
      rw [hdl]
      rcases ht with h | h
      · rw [decide_eq_false (show ¬ 0 ≤ t by omega)]; exact ⟨rfl, getI_neg _ _ h⟩
      · rw [decide_eq_false (show ¬ t < (L.length : Int) by omega)]; exact ⟨by simp, getI_past _ _ (by rw [hdl]; exact h)⟩
    have HE := Lib.hid e
    have HS := Lib.hid hs
    have HT := Lib.hid ht
    clear hs ht e hdl
    go_enter Try.func12, Try.ntmps12
    go_wp2_with fail
    with_reducible refine (of_out B g v L t HT.out _ HS.out).mono ?_
    rintro e w' ⟨rfl, n, rfl⟩
    go_wp2_with fail
    go_ret
    exact ⟨_, L, rfl, by rw [HE.out.2]; exact Own.nil _ _, HE.out.1.symm, HS.out.no (Fr.drewN (Fr.refl _ _) n), Fr.drewN (Fr.refl _ _) n, fun k hk => hk, fun k hk => by cases hk⟩
  obtain ⟨k, rfl⟩ := Int.eq_ofNat_of_zero_le (show 0 ≤ t by omega)
  have hk : k < L.length := by omega
  have HO := Lib.hid (of_in B g v L k hk w hs)
  obtain ⟨d, co, rfl, x0, y0, hd, hBd⟩ := hs.rows.slot k hk
  obtain ⟨c0, c1⟩ := hs.cells
  have hrow := hs.rows.row _ (List.getElem_mem hk)
  have HS := Lib.hid hs
  have HK := Lib.hid hk
  have HQ : Hid (∀ b, (L[k]).1.ownBlock = some b → ∀ j p, L[j]? = some p → p.1.ownBlock = some b → j = k) := Lib.hid (fun b hb j p hj hp => (hs.sep k j _ _ b (List.getElem?_eq_getElem hk) hj hb hp).symm)
  have HF : Hid (∀ b, (L[k]).1.ownBlock = some b → Foot g (.slice (some ⟨d, 0, none⟩) L.length co) L b) := Lib.hid (fun b hb => .inr (.inr ⟨_, List.getElem_mem hk, hb⟩))
  have HG := Lib.hid (getI_in L k hk)
  have HT : Hid (takeD (dat L) (k : Int) = (dat L).set k []) := Lib.hid (by unfold takeD inD; rw [if_pos (by rw [hdl]; simp; omega)]; rfl)
  have hng : (L[k]).1.ownBlock ≠ some g := own_ne_blk hrow hs.blk (by decide)
  have hnd : (L[k]).1.ownBlock ≠ some d := fun e => by
    rcases hs.rows.own.2 with ⟨h0, _⟩ | ⟨q, cap, cur, hv, _, hd, _⟩
    · cases h0
    · injection hv with h1 _ _
      injection h1 with h1
      injection h1 with h1 _ _
      exact own_ne_blk hrow hd (by decide) (by first | (rw [← h1]; exact e) | (rw [h1]; exact e))
  generalize hp : L[k] = p at HO HQ HF HG x0 hrow hng hnd
  obtain ⟨pv, xs⟩ := p
  dsimp only at HO HQ HF HG x0 hrow hng hnd
  obtain ⟨A, c, rfl, hle⟩ := own_slice hrow
  have HR := Lib.hid hrow
  have HN := Lib.hid (And.intro hng hnd)
  clear hs hrow hle hp ht hng hnd
  obtain ⟨n0, hn0⟩ : ∃ n0, n0 = xs.length := ⟨_, rfl⟩
  rw [← hn0] at HO HR HQ HF HN x0
  clear hn0
  have i1 : (0 : Int) ≤ (k : Int) := Int.natCast_nonneg _
  have i2 : (k : Int) < (L.length : Int) := by omega
  clear hk hdl
  go_enter Try.func12, Try.ntmps12
  go_wp2_with fail
  with_reducible refine HO.out.mono ?_
  rintro e w' ⟨rfl, n, rfl⟩
  go_wp2_with fail
  go_ret
  have F1 : Fr No w (w.drewN n) := Fr.drewN (Fr.refl _ _) n
  have F2 : Fr (fun j => j = d) (w.drewN n) ((w.drewN n).setCell ⟨d, k, none⟩ (.slice none 0 0)) := (Fr.refl (fun j => j = d) (w.drewN n)).setCell (p := ⟨d, k, none⟩) (.inl rfl) _
  refine ⟨_, L.set k (.slice none 0 0, []), rfl, ?_, by rw [HT.out]; exact dat_set _ _ _, (HS.out.no F1).put k _ _ (Own.nil _ _) (fun b hb => by cases hb), ?_, ?_, ?_⟩
  · rw [HG.out]
    exact (HR.out.fr F1 (fun _ _ h => h)).fr F2 (fun j hj e => HN.out.2 (by rw [hj, e]))
  · exact (F1.mono (fun _ h => h.elim)).trans F2 (fun i hi => .inl (.inr (.inl (by rw [hi]; rfl))))
  · intro b hb
    rcases foot_set (P := fun _ => False) (fun b hb => by cases hb) b hb with h | h
    · exact h
    · exact h.elim
  · intro b hb
    refine ⟨HF.out b hb, ?_⟩
    rintro (h | h | ⟨p, hp, h⟩)
    · exact HN.out.1 (hb.trans (congrArg some h))
    · simp [Value.ownBlock] at h
      exact HN.out.2 (hb.trans (congrArg some h.symm))
    · obtain ⟨j, hj⟩ := List.getElem?_of_mem hp
      rw [List.getElem?_set] at hj
      by_cases e : k = j
      · rw [if_pos e, if_pos HK.out] at hj
        injection hj with hj
        subst hj
        cases h
      · rw [if_neg e] at hj
        exact e (HQ.out b hb j p hj h).symm

set_option maxHeartbeats 3200000 in
theorem len_any (B g : Nat) (v : Value) (L : List Ln) (t : Int) (w : World) (hs : Bufs w B g v L) :
    Calls Try.prog 18 #[.pointer (some ⟨g, 0, none⟩), .int .i64 t] w (Quiet w (.int .i64 (getI (dat L) t).length)) := by
  have hdl := dat_length L
  by_cases ht : t < 0 ∨ (L.length : Int) ≤ t
  · have e : getI (dat L) t = [] := by
      rcases ht with h | h
      · exact getI_neg _ _ h
      · exact getI_past _ _ (by rw [hdl]; exact h)
    rw [e]
    have HS := Lib.hid hs
    have HT := Lib.hid ht
    clear hs ht e hdl
    go_enter Try.func18, Try.ntmps18
    go_wp2_with fail
    with_reducible refine (of_out B g v L t HT.out _ HS.out).mono ?_
    rintro e w' ⟨rfl, n, rfl⟩
    go_wp2_with fail
    go_ret
    exact ⟨rfl, n, rfl⟩
  obtain ⟨k, rfl⟩ := Int.eq_ofNat_of_zero_le (show 0 ≤ t by omega)
  have hk : k < L.length := by omega
  have HO := Lib.hid (of_in B g v L k hk w hs)
  rw [getI_in L k hk]
  obtain ⟨A, c, he, hle⟩ := own_slice (hs.rows.row _ (List.getElem_mem hk))
  rw [he] at HO
  generalize (L[k]).2.length = m at HO ⊢
  clear hs he hle hk ht hdl
  go_enter Try.func18, Try.ntmps18
  go_wp2_with fail
  with_reducible refine HO.out.mono ?_
  rintro e w' ⟨rfl, n, rfl⟩
  go_wp2_with fail
  go_ret
  exact ⟨rfl, n, rfl⟩

/-! ### nobody made it -/
def Odd (w : World) (g : Nat) : Prop := w.heap[g]? = some (.cells #[.bool false, .slice none 0 0] 41 (0, 0))
theorem Odd.fr {w w' : World} {g : Nat} (h : Odd w g) (hf : Fr No w w') : Odd w' g := hf.blk h (fun h => h)
theorem of_nil (t : Int) (w : World) : Calls Try.prog 22 #[.pointer none, .int .i64 t] w (Quiet w (.tuple #[.slice none 0 0, .bool false])) := by
  go_enter Try.func22, Try.ntmps22
  go_wp2
  go_ret2
  exact ⟨rfl, 0, rfl⟩
theorem of_odd (g : Nat) (w : World) (hg : Odd w g) : Calls Try.prog 22 #[.pointer (some ⟨g, 0, none⟩), .int .i64 0] w (Quiet w (.tuple #[.slice none 0 0, .bool false])) := by
  have c0 : w.cell? ⟨g, 0, none⟩ = some (.bool false) := cell_of hg 0
  have c1 : w.cell? ⟨g, 1, none⟩ = some (.slice none 0 0) := cell_of hg 1
  clear hg
  go_enter Try.func22, Try.ntmps22
  go_wp2
  go_ret2
  exact ⟨rfl, 0, rfl⟩
theorem put_nil (w : World) : Calls Try.prog 11 #[.pointer none, .int .i64 0, .int .i64 0] w (Quiet w (.bool false)) := by
  go_enter Try.func11, Try.ntmps11
  go_wp2_with fail
  with_reducible refine (of_nil _ _).mono ?_
  rintro e w' ⟨rfl, n, rfl⟩
  go_wp2_with fail
  go_ret
  exact ⟨rfl, n, rfl⟩
theorem put_odd (g : Nat) (w : World) (hg : Odd w g) : Calls Try.prog 11 #[.pointer (some ⟨g, 0, none⟩), .int .i64 0, .int .i64 0] w (Quiet w (.bool false)) := by
  have HG := Lib.hid hg
  clear hg
  go_enter Try.func11, Try.ntmps11
  go_wp2_with fail
  with_reducible refine (of_odd g _ HG.out).mono ?_
  rintro e w' ⟨rfl, n, rfl⟩
  go_wp2_with fail
  go_ret
  exact ⟨rfl, n, rfl⟩
theorem take_nil (w : World) : Calls Try.prog 12 #[.pointer none, .int .i64 0] w (Quiet w (.slice none 0 0)) := by
  go_enter Try.func12, Try.ntmps12
  go_wp2_with fail
  with_reducible refine (of_nil _ _).mono ?_
  rintro e w' ⟨rfl, n, rfl⟩
  go_wp2_with fail
  go_ret
  exact ⟨rfl, n, rfl⟩
theorem len_nil (w : World) : Calls Try.prog 18 #[.pointer none, .int .i64 0] w (Quiet w (.int .i64 0)) := by
  go_enter Try.func18, Try.ntmps18
  go_wp2_with fail
  with_reducible refine (of_nil _ _).mono ?_
  rintro e w' ⟨rfl, n, rfl⟩
  go_wp2_with fail
  go_ret
  exact ⟨rfl, n, rfl⟩
theorem len_odd (g : Nat) (w : World) (hg : Odd w g) : Calls Try.prog 18 #[.pointer (some ⟨g, 0, none⟩), .int .i64 0] w (Quiet w (.int .i64 0)) := by
  have HG := Lib.hid hg
  clear hg
  go_enter Try.func18, Try.ntmps18
  go_wp2_with fail
  with_reducible refine (of_odd g _ HG.out).mono ?_
  rintro e w' ⟨rfl, n, rfl⟩
  go_wp2_with fail
  go_ret
  exact ⟨rfl, n, rfl⟩
theorem empty_nil (w : World) : Calls Try.prog 16 #[.pointer none] w (Quiet w (.bool true)) := by
  go_enter Try.func16, Try.ntmps16
  go_wp2
  go_ret
  exact ⟨rfl, 0, rfl⟩
theorem clear_nil (w : World) : Calls Try.prog 15 #[.pointer none] w (Quiet w (.int .i64 0)) := by
  go_enter Try.func15, Try.ntmps15
  go_wp2
  go_ret
  exact ⟨rfl, 0, rfl⟩
theorem clone_nil (w : World) : Calls Try.prog 17 #[.pointer none] w (Quiet w (.pointer none)) := by
  go_enter Try.func17, Try.ntmps17
  go_wp2
  go_ret
  exact ⟨rfl, 0, rfl⟩
theorem clone_odd (g : Nat) (w : World) (hg : Odd w g) : Calls Try.prog 17 #[.pointer (some ⟨g, 0, none⟩)] w (Quiet w (.pointer none)) := by
  have c0 : w.cell? ⟨g, 0, none⟩ = some (.bool false) := cell_of hg 0
  have c1 : w.cell? ⟨g, 1, none⟩ = some (.slice none 0 0) := cell_of hg 1
  clear hg
  go_enter Try.func17, Try.ntmps17
  go_wp2
  go_ret
  exact ⟨rfl, 0, rfl⟩

end Go.Proofs.Ytmgfidepjclobaa.Buffer
