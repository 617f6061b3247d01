/- Proved: what putting, taking, telling, clearing and copying of buffers does and answers. -/
import Derived.Test.YtmgfidepjclobaaBuffer
namespace Go.Proofs.Ytmgfidepjclobaa.Buffer
open Go.RowKit Go.Proofs.Ytmgfidepjclobaa.H Go.Proofs.Ytmgfidepjclobaa.Nums

theorem no_below {w w' : World} (h : Fr No w w') : Below w.heap.size w w' := h.below (Nat.le_refl _) (fun _ h => h.elim)
theorem drewN_fr {w wa wb : World} {n : Nat} (h : Fr No w wa) (e : wb = wa.drewN n) : Fr No w wb := by rw [e]; exact h.drewN n
def Post (B g : Nat) (v : Value) (L : List Ln) (D : List (List Int)) (r : Value) (w : World) (x : Ending) (w' : World) : Prop :=
  ∃ L', x = .returned r ∧ dat L' = D ∧ Bufs w' B g v L' ∧ Fr (Foot g v L) w w' ∧ ∀ k, Foot g v L' k → Foot g v L k ∨ w.heap.size ≤ k
theorem Post.quiet {B g : Nat} {v : Value} {L : List Ln} {r : Value} {w : World} {x : Ending} {w' : World} (hs : Bufs w B g v L) (h : Quiet w r x w') : Post B g v L (dat L) r w x w' := by
  obtain ⟨rfl, n, rfl⟩ := h
  exact ⟨L, rfl, rfl, hs.no (Fr.drewN (Fr.refl _ _) n), Fr.drewN (Fr.refl _ _) n, fun k hk => .inl hk⟩

theorem Bufs.put2 {w w2 : World} {B g d n c k : Nat} {L : List Ln} (h : Bufs w B g (.slice (some ⟨d, 0, none⟩) n c) L) (hk : k < L.length) {S : Nat → Prop} (hf : Fr S w w2) (hS : ∀ j, S j → (L[k]).1.ownBlock = some j)
    (u : Value) (xs : List Int) (hu : Own w2 B u xs) (hs : ∀ b, u.ownBlock = some b → (L[k]).1.ownBlock = some b ∨ w.heap.size ≤ b) :
    Bufs (w2.setCell ⟨d, k, none⟩ u) B g (.slice (some ⟨d, 0, none⟩) n c) (L.set k (u, xs)) := by
  have hne : g ≠ d := fun e => h.ne (by simp [Value.ownBlock, e])
  have hrk := h.rows.row _ (List.getElem_mem hk)
  have hat := List.getElem?_eq_getElem hk
  have hfg : ¬ S g := fun e => own_ne_blk hrk h.blk (by decide) (hS g e)
  have hlt : ∀ (j : Nat) (p : Ln) (b : Nat), L[j]? = some p → p.1.ownBlock = some b → b < w.heap.size := fun j p b hj hp => ((h.rows.row p (List.mem_of_getElem? hj)).lt b hp).2
  rcases h.rows.own.2 with ⟨h0, _⟩ | ⟨d', cap, cur, hv, hB, hd, hnc, hcm, hcs, htk⟩
  · cases h0
  · injection hv with h1 h2 h3
    injection h1 with h1
    injection h1 with h1 _ _
    subst h1 h2 h3
    have hfd : ¬ S d := fun e => own_ne_blk hrk hd (by decide) (hS d e)
    have hd2 := hf.blk hd hfd
    have hg : Fr (fun j => j = d) w2 (w2.setCell ⟨d, k, none⟩ u) := (Fr.refl (fun j => j = d) w2).setCell (p := ⟨d, k, none⟩) (.inl rfl) u
    refine ⟨far_of (hf.blk h.blk hfg) (p := ⟨d, k, none⟩) hne _, ⟨⟨by simp, .inr ⟨d, c, cur.setIfInBounds k u, by rw [List.length_set], hB, set_of hd2 k _, by rw [List.length_set]; exact hnc, hcm, by simpa using hcs, ?_⟩⟩, ?_⟩, h.base, by rw [List.length_set]; exact h.len, ?_⟩
    · rw [List.length_set, Array.toList_setIfInBounds, List.take_set, htk, List.map_set]
    · intro p hp
      obtain ⟨j, hj⟩ := List.getElem?_of_mem hp
      rw [List.getElem?_set] at hj
      by_cases e : k = j
      · rw [if_pos e, if_pos hk] at hj
        injection hj with hj
        subst hj
        exact hu.fr hg (fun i hi e => own_ne_blk hu hd2 (by decide) (by rw [hi, e]))
      · rw [if_neg e] at hj
        have hrow := h.rows.row p (List.mem_of_getElem? hj)
        have hr2 : Own w2 B p.1 p.2 := hrow.fr hf (fun i hi hSi => e (h.sep k j _ _ i hat hj (hS i hSi) hi))
        exact hr2.fr hg (fun i hi e => own_ne_blk hr2 hd2 (by decide) (by rw [hi, e]))
    · have key : ∀ (j : Nat) (q : Ln) (b : Nat), L[j]? = some q → k ≠ j → u.ownBlock = some b → q.1.ownBlock = some b → False := by
        intro j q b hj hkj hb hq
        rcases hs b hb with h4 | h4
        · exact hkj (h.sep k j _ _ b hat hj h4 hq)
        · have := hlt j q b hj hq; omega
      intro i j p q b hi hj hp hq
      rw [List.getElem?_set] at hi hj
      by_cases e1 : k = i <;> by_cases e2 : k = j
      · omega
      · rw [if_neg e2] at hj
        rw [if_pos e1, if_pos hk] at hi
        injection hi with hi
        subst hi
        exact (key j q b hj e2 hp hq).elim
      · rw [if_neg e1] at hi
        rw [if_pos e2, if_pos hk] at hj
        injection hj with hj
        subst hj
        exact (key i p b hi e1 hq hp).elim
      · rw [if_neg e1] at hi
        rw [if_neg e2] at hj
        exact h.sep i j p q b hi hj hp hq

set_option maxHeartbeats 3200000 in
theorem put_out (B g : Nat) (v : Value) (L : List Ln) (t a : Int) (ht : t < 0 ∨ (L.length : Int) ≤ t) (w : World) (hs : Bufs w B g v L) :
    Calls Try.prog 11 #[.pointer (some ⟨g, 0, none⟩), .int .i64 t, .int .i64 a] w (Quiet w (.bool false)) := by
  have HS := Lib.hid hs
  have HT := Lib.hid ht
  clear hs ht
  go_enter Try.func11, Try.ntmps11
  go_wp2_with fail
  with_reducible refine (of_out B g v L t HT.out _ HS.out).mono ?_
  rintro e w' ⟨rfl, n, rfl⟩
  go_wp2_with fail
  go_ret
  exact ⟨rfl, n, rfl⟩
set_option maxHeartbeats 3200000 in
theorem put_far (B g : Nat) (v : Value) (L : List Ln) (k : Nat) (hk : k < L.length) (a : Int) (ha : a < 0 ∨ 2048 ≤ a) (w : World) (hs : Bufs w B g v L) :
    Calls Try.prog 11 #[.pointer (some ⟨g, 0, none⟩), .int .i64 k, .int .i64 a] w (Quiet w (.bool false)) := by
  have HS := Lib.hid hs
  have HA := Lib.hid ha
  have HO := Lib.hid (of_in B g v L k hk w hs)
  obtain ⟨A, c, he, hle⟩ := own_slice (hs.rows.row _ (List.getElem_mem hk))
  rw [he] at HO
  generalize (L[k]).2.length = m at HO
  clear hs ha he hle hk
  go_enter Try.func11, Try.ntmps11
  go_wp2_with fail
  with_reducible refine HO.out.mono ?_
  rintro e w' ⟨rfl, n, rfl⟩
  go_wp2_with fail
  with_reducible refine (page_any a _).mono ?_
  rintro e w' ⟨r, rfl, ⟨n2, rfl⟩, hr⟩
  rw [decide_eq_true HA.out] at hr
  go_wp2_with fail
  go_ret
  exact ⟨rfl, n + n2, rfl⟩
set_option maxHeartbeats 3200000 in
theorem put_has (B g : Nat) (v : Value) (L : List Ln) (k : Nat) (hk : k < L.length) (a : Int) (ha : 0 ≤ a ∧ a < 2048) (hm : a ∈ (L[k]).2) (hl : (L[k]).2.length ≤ 1000000) (w : World) (hs : Bufs w B g v L) :
    Calls Try.prog 11 #[.pointer (some ⟨g, 0, none⟩), .int .i64 k, .int .i64 a] w (Quiet w (.bool false)) := by
  have HS := Lib.hid hs
  have HA := Lib.hid (show ¬ (a < 0 ∨ 2048 ≤ a) by omega)
  have HO := Lib.hid (of_in B g v L k hk w hs)
  have hrow := hs.rows.row _ (List.getElem_mem hk)
  obtain ⟨A, c, he, hle⟩ := own_slice hrow
  rw [he] at HO hrow
  have HR := Lib.hid hrow.rd
  have HM := Lib.hid hm
  have HL := Lib.hid hl
  generalize (L[k]).2 = xs at HO HR HM HL
  clear hs ha he hle hk hrow hm hl
  obtain ⟨n0, hn0⟩ : ∃ n0, n0 = xs.length := ⟨_, rfl⟩
  rw [← hn0] at HO HR
  have HN := Lib.hid hn0
  clear hn0
  go_enter Try.func11, Try.ntmps11
  go_wp2_with fail
  with_reducible refine HO.out.mono ?_
  rintro e w' ⟨rfl, n, rfl⟩
  go_wp2_with fail
  with_reducible refine (page_any a _).mono ?_
  rintro e w' ⟨r, rfl, ⟨n2, rfl⟩, hr⟩
  rw [decide_eq_false HA.out] at hr
  go_wp2_with fail
  with_reducible refine (contains_any A n0 c xs a HN.out _ (HR.out.below (no_below (by repeat (first | exact Fr.refl _ _ | apply Fr.drewN)))) HL.out).mono ?_
  rintro e w' ⟨rfl, n3, rfl⟩
  rw [decide_eq_true HM.out]
  go_wp2_with fail
  go_ret
  exact ⟨rfl, n + n2 + n3, rfl⟩
set_option maxHeartbeats 3200000 in
theorem put_yes (B g : Nat) (v : Value) (L : List Ln) (k : Nat) (hk : k < L.length) (a : Int) (ha : 0 ≤ a ∧ a < 2048) (hm : a ∉ (L[k]).2) (hl : (L[k]).2.length ≤ 1000000) (w : World) (hs : Bufs w B g v L) :
    Calls Try.prog 11 #[.pointer (some ⟨g, 0, none⟩), .int .i64 k, .int .i64 a] w (Post B g v L ((dat L).set k ((L[k]).2 ++ [a])) (.bool true) w) := by
  obtain ⟨i0, hi0, hz0, hz1, hz2⟩ := info_parts infoE
  have HA := Lib.hid (show ¬ (a < 0 ∨ 2048 ≤ a) by omega)
  have HO := Lib.hid (of_in B g v L k hk w hs)
  obtain ⟨d, co, rfl, x0, y0, hd, hBd⟩ := hs.rows.slot k hk
  obtain ⟨c0, c1⟩ := hs.cells
  have hrow := hs.rows.row _ (List.getElem_mem hk)
  have HS := Lib.hid hs
  have HK := Lib.hid hk
  have HQ : Hid (∀ b, (L[k]).1.ownBlock = some b → ∀ j p, L[j]? = some p → p.1.ownBlock = some b → j = k) := Lib.hid (fun b hb j p hj hp => (hs.sep k j _ _ b (List.getElem?_eq_getElem hk) hj hb hp).symm)
  have HF : Hid (∀ b, (L[k]).1.ownBlock = some b → Foot g (.slice (some ⟨d, 0, none⟩) L.length co) L b) := Lib.hid (fun b hb => .inr (.inr ⟨_, List.getElem_mem hk, hb⟩))
  have HFT := Lib.hid hs.foot_lt
  generalize hp : L[k] = p at HO HQ HF x0 hrow hm hl ⊢
  have HP := Lib.hid hp
  obtain ⟨pv, xs⟩ := p
  dsimp only at HO HQ HF x0 hrow hm hl ⊢
  obtain ⟨A, c, rfl, _⟩ := own_slice hrow
  have HR := Lib.hid hrow
  have HRd := Lib.hid hrow.rd
  have HM := Lib.hid hm
  have HL := Lib.hid hl
  clear hs ha hrow hm hl hp
  obtain ⟨n0, hn0⟩ : ∃ n0, n0 = xs.length := ⟨_, rfl⟩
  rw [← hn0] at HO HR HRd HQ HF HP x0
  have HN := Lib.hid hn0
  clear hn0
  have i1 : (0 : Int) ≤ (k : Int) := Int.natCast_nonneg _
  have i2 : (k : Int) < (L.length : Int) := by omega
  clear hk
  go_enter Try.func11, Try.ntmps11
  go_wp2_with fail
  with_reducible refine HO.out.mono ?_
  rintro e wa ⟨rfl, n, hwa⟩
  have FA := Lib.hid (drewN_fr (Fr.refl No w) hwa)
  clear hwa
  go_wp2_with fail
  with_reducible refine (page_any a _).mono ?_
  rintro e wb ⟨r, rfl, ⟨n2, hwb⟩, hr⟩
  rw [decide_eq_false HA.out] at hr
  have FB := Lib.hid (drewN_fr FA.out hwb)
  clear hwb
  go_wp2_with fail
  with_reducible refine (contains_any A n0 c xs a HN.out _ (HRd.out.below (no_below FB.out)) HL.out).mono ?_
  rintro e w1 ⟨rfl, n3, hw1'⟩
  rw [decide_eq_false HM.out]
  have hw1 := drewN_fr FB.out hw1'
  clear hw1'
  have S1 := Lib.hid (HS.out.no hw1)
  have O1 : w1.ownsRow B 3 1 (.slice A n0 c) xs.length (ints xs) := HR.out.fr hw1 (fun _ _ h => h)
  have F1 := Lib.hid hw1
  have hz1' : w.heap.size ≤ w1.heap.size := hw1.size
  have lg : g < w1.heap.size := lt_of_blk S1.out.blk
  have ld : d < w1.heap.size := by omega
  have c0' := S1.out.cells.1
  have c1' := S1.out.cells.2
  obtain ⟨d', co', he', x0', y0', _⟩ := S1.out.rows.slot k HK.out
  injection he' with he1 _ he3
  injection he1 with he1
  injection he1 with he1 _ _
  subst he1 he3
  clear c0 c1 x0 y0 hd hw1
  have hbx : (w1.alloc (.cells #[.int .i64 a] 3)).drew.heap[w1.heap.size]? = some (.cells #[.int .i64 a] 3 (0, 0)) := heap_alloc_new _ _
  have hne : (Value.slice A n0 c).ownBlock ≠ some g := own_ne_blk O1 S1.out.blk (by decide)
  have hnd : (Value.slice A n0 c).ownBlock ≠ some d := fun e => by
    rcases S1.out.rows.own.2 with ⟨h0, _⟩ | ⟨q, cap, cur, hv, _, hd, _⟩
    · cases h0
    · injection hv with h1 _ _
      injection h1 with h1
      injection h1 with h1 _ _
      exact own_ne_blk O1 hd (by decide) (by rw [e, h1])
  have hnn : (Value.slice A n0 c).ownBlock ≠ some w1.heap.size := fun e => by have := (World.ownsRow.lt O1 _ e).2; omega
  have cz1 : (w1.alloc (.cells #[.int .i64 a] 3)).drew.cell? ⟨g, 1, none⟩ = some (.slice (some ⟨d, 0, none⟩) L.length co) := (World.cell?_of_block (w := w1) (Below.heap_alloc w1 _ g lg)).trans c1'
  have yz0 : (w1.alloc (.cells #[.int .i64 a] 3)).drew.frozen? ⟨d, k, none⟩ = false := (World.frozen?_of_block (w := w1) (Below.heap_alloc w1 _ d ld)).trans y0'
  have xz0 : (w1.alloc (.cells #[.int .i64 a] 3)).drew.cell? ⟨d, k, none⟩ = some (L[k]'HK.out).1 := (World.cell?_of_block (w := w1) (Below.heap_alloc w1 _ d ld)).trans x0'
  go_wp2_with fail
  go_region_law ((refine step_append_lies _ (by rfl) _ _ _ (by rfl) B 3 i0 _ 1 8 Try.underlying32 hi0 hz0 hz1 hz2 rfl (by omega) (.slice A n0 c) xs.length (ints xs) (by rfl) ((O1.alloc _).drew) ⟨w1.heap.size, 0, none⟩ 1 1 [.int .i64 a] (by rfl) (by rfl) (World.news_of_block (cs := #[.int .i64 a]) (t := 3) (fr := (0, 0)) hbx) (by simp [Value.oneCell']) (by omega) (by have := HL.out; unfold maxLen; omega) (by have := HL.out; omega) (by have := (HFT.out g (.inl rfl)).1; simp; omega) (w1.heap.size + 1) (by simp) ?_; intro gg cap w2 hown1 hgrow hat hlt; have fz : w2.frozen? ⟨d, k, none⟩ = false := (by rw [hgrow.frozen_far _ (by simp; omega) (Ne.symm hnd)]; exact yz0); have fx : w2.cell? ⟨d, k, none⟩ = some (L[k]'HK.out).1 := (by rw [hgrow.cell_far _ (by simp; omega) (Ne.symm hnd)]; exact xz0); have cz : w2.cell? ⟨g, 1, none⟩ = some (.slice (some ⟨d, 0, none⟩) L.length co) := (by rw [hgrow.cell_far _ (by simp; omega) (Ne.symm hne)]; exact cz1)))
  all_goals
    have hg0 : Fr (fun j => (Value.slice A n0 c).ownBlock = some j) w1 (w1.alloc (.cells #[.int .i64 a] 3)).drew := ((Fr.refl _ w1).alloc _).drew
    have G2 := Lib.hid (hg0.grown hgrow (fun j hj => .inl hj))
    have HT := Lib.hid (show ∀ b, (Value.slice (some ⟨gg, 0, none⟩) (xs.length + 1) cap).ownBlock = some b → (Value.slice A n0 c).ownBlock = some b ∨ w1.heap.size ≤ b from fun b hb => by
      simp [Value.ownBlock] at hb
      subst hb
      rcases hat with h | h
      · exact .inl h
      · exact .inr (by omega))
    have HW : Hid (Own w2 B (.slice (some ⟨gg, 0, none⟩) (xs.length + 1) cap) (xs ++ [a])) := Lib.hid (by
      unfold Own
      rw [ints_append, List.length_append]
      exact hown1)
    go_wp2
    go_ret
    refine ⟨L.set k (.slice (some ⟨gg, 0, none⟩) (xs.length + 1) cap, xs ++ [a]), rfl, dat_set _ _ _, S1.out.put2 HK.out G2.out (fun j hj => (congrArg (fun p : Ln => p.1.ownBlock) HP.out).trans hj) _ _ HW.out (fun b hb => (HT.out b hb).imp (fun h => (congrArg (fun p : Ln => p.1.ownBlock) HP.out).trans h) id), ?_, foot_set (fun b hb => ?_)⟩
    · refine ((F1.out.mono (fun _ h => h.elim)).trans (S' := Foot g (.slice (some ⟨d, 0, none⟩) L.length co) L) (G2.out.mono HF.out) (fun i hi => .inl hi)).setCell (p := ⟨d, k, none⟩) (.inl (.inr (.inl rfl))) _
    · rcases HT.out b hb with h | h
      · exact .inl (HF.out b h)
      · exact .inr (by have := F1.out.size; omega)

end Go.Proofs.Ytmgfidepjclobaa.Buffer
