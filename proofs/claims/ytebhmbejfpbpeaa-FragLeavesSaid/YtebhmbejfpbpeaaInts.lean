/- Proved: rows of whole numbers that a call owns or reads: what stands at a place, and a store; what a copy, and what holding two rows against each other, comes to. -/
import Derived.Test.YtebhmbejfpbpeaaProg
import Derived.Test.YtebhmbejfpbpeaaHeap
import Derived.Test.YtebhmbejfpbpeaaArg
import Derived.WalkSpells
import Derived.KernelRfl
import Derived.StillTactics
import Derived.Laws.Pointers
import Derived.Deep.RegionHeld3
import Derived.Deep.RegionLaw
import Derived.Deep.QuietTactic
import Derived.BigQuiet
import Derived.Deep.DeepCutAuto
import Derived.Deep.LoopGhost
import Derived.Outline
namespace Go.Proofs.Ytebhmbejfpbpeaa.Nums
open Go.RowKit Go.Proofs.Ytebhmbejfpbpeaa.H Go.ChangeShapes Go.WideShapes

theorem infoE : (Try.prog.info? 3).map (fun i => (i.zero, i.size, i.bytes)) = some (some (.int .i64 0), 1, 8) := by kernel_rfl

def ints (l : List Int) : List Value := l.flatMap fun x => [Value.int .i64 x]
theorem ints_eq (l : List Int) : ints l = l.map (Value.int .i64) := by
  induction l with
  | nil => rfl
  | cons x l ih => simp [ints] at ih ⊢; exact ih
theorem ints_length (l : List Int) : (ints l).length = l.length := by rw [ints_eq]; simp
theorem ints_take (l : List Int) (m : Nat) : (ints l).take m = ints (l.take m) := by rw [ints_eq, ints_eq, List.map_take]
theorem ints_append (l m : List Int) : ints (l ++ m) = ints l ++ ints m := by simp [ints]
theorem ints_one (l : List Int) : ∀ u ∈ ints l, u.oneCell' = true := by
  intro u hu
  rw [ints_eq] at hu
  obtain ⟨x, _, rfl⟩ := List.mem_map.1 hu
  rfl
theorem ints_at (l : List Int) (k : Nat) (h : k < l.length) : (ints l)[k]? = some (.int .i64 l[k]) := by rw [ints_eq]; simp [h]

/-- an element of a row that is read -/
theorem rd_at {w : World} {A : Option Addr} {n c : Nat} {l : List Int} (h : Rd w (.slice A n c) n 1 (ints l)) (k : Nat) (hk : k < l.length) :
    ∃ ad, A = some ad ∧ w.cell? (ad.add k) = some (.int .i64 l[k]) := by
  have hl := h.len
  rw [ints_length] at hl
  rcases h.at_ with ⟨_, h0⟩ | ⟨ad, c', he, _, hc⟩
  · omega
  · injection he with he _ _
    exact ⟨ad, he, hc _ _ (ints_at l k hk)⟩

/-- a row that is the call's own -/
def Own (w : World) (B : Nat) (v : Value) (l : List Int) : Prop := w.ownsRow B 3 1 v l.length (ints l)
theorem Own.nil (w : World) (B : Nat) : Own w B (.slice none 0 0) [] := World.ownsRow_nil _ _ _ _
theorem Own.slice {w : World} {B : Nat} {v : Value} {l : List Int} (h : Own w B v l) : ∃ A c, v = .slice A l.length c ∧ l.length ≤ c := own_slice h
theorem Own.rd {w : World} {B : Nat} {v : Value} {l : List Int} (h : Own w B v l) : Rd w v l.length 1 (ints l) := Rd.of_own h (ints_one l)
theorem Own.lt {w : World} {B : Nat} {v : Value} {l : List Int} (h : Own w B v l) : ∀ k, v.ownBlock = some k → B ≤ k ∧ k < w.heap.size := World.ownsRow.lt h
theorem Own.fr {S : Nat → Prop} {w w' : World} {B : Nat} {v : Value} {l : List Int} (h : Own w B v l) (hf : Fr S w w') (hn : ∀ k, v.ownBlock = some k → ¬ S k) : Own w' B v l := hf.own h hn
theorem Own.lower {w : World} {B B' : Nat} {v : Value} {l : List Int} (h : Own w B v l) (hB : B' ≤ B) : Own w B' v l := by
  refine ⟨h.1, ?_⟩
  rcases h.2 with h2 | ⟨d, cap, cur, h1, h2, h3⟩
  · exact .inl h2
  · exact .inr ⟨d, cap, cur, h1, Nat.le_trans hB h2, h3⟩
theorem Own.at_ {w : World} {B : Nat} {v : Value} {l : List Int} (h : Own w B v l) (k : Nat) (hk : k < l.length) :
    ∃ d c, v = .slice (some ⟨d, 0, none⟩) l.length c ∧ w.cell? ⟨d, k, none⟩ = some (.int .i64 l[k]) ∧ w.frozen? ⟨d, k, none⟩ = false ∧ d < w.heap.size := by
  rcases h.2 with ⟨_, h0⟩ | ⟨d, cap, cur, hv, _, hd, hnc, hcm, hcs, htk⟩
  · omega
  · refine ⟨d, cap, hv, ?_, free_of hd k, lt_of_blk hd⟩
    have h2 := ints_at l k hk
    rw [← htk, List.getElem?_take] at h2
    split at h2
    · rw [cell_of hd]; simpa using h2
    · cases h2
theorem Own.cell {w : World} {B : Nat} {A : Option Addr} {n c : Nat} {l : List Int} (h : Own w B (.slice A n c) l) (k : Nat) (hk : k < l.length) :
    ∃ d y, A = some ⟨d, 0, none⟩ ∧ w.cell? ⟨d, k, none⟩ = some (.int .i64 y) ∧ w.frozen? ⟨d, k, none⟩ = false ∧ l[k]? = some y := by
  obtain ⟨d, c', he, x0, f0, _⟩ := h.at_ k hk
  injection he with he _ _
  exact ⟨d, l[k], he, x0, f0, List.getElem?_eq_getElem hk⟩
/-- the row behind a store -/
theorem Own.put {w : World} {B d n c : Nat} {l : List Int} (h : Own w B (.slice (some ⟨d, 0, none⟩) n c) l) (k : Nat) (x : Int) :
    Own (w.setCell ⟨d, k, none⟩ (.int .i64 x)) B (.slice (some ⟨d, 0, none⟩) n c) (l.set k x) := by
  refine ⟨by rw [ints_length, List.length_set]; omega, ?_⟩
  rcases h.2 with ⟨h0, _⟩ | ⟨d', cap, cur, hv, hB, hd, hnc, hcm, hcs, htk⟩
  · cases h0
  · injection hv with h1 h2 h3
    injection h1 with h1
    injection h1 with h1 _ _
    subst h1 h2 h3
    refine .inr ⟨d, c, cur.setIfInBounds k (.int .i64 x), by rw [List.length_set], hB, set_of hd k _, by rw [List.length_set]; exact hnc, hcm, by simpa using hcs, ?_⟩
    rw [List.length_set, Array.toList_setIfInBounds, List.take_set, htk, ints_eq, ints_eq, List.map_set]

/-- what a copy of some numbers is: a new row -/
def CopyPost (l : List Int) (w : World) (e : Ending) (w' : World) : Prop :=
  ∃ v', e = .returned v' ∧ Own w' w.heap.size v' l ∧ Below w.heap.size w w'
def Quiet (w : World) (r : Value) (e : Ending) (w' : World) : Prop := e = .returned r ∧ ∃ n, w' = w.drewN n
def Same (w : World) (r : Value) (e : Ending) (w' : World) : Prop := e = .returned r ∧ Below w.heap.size w w'

/-- the law for append of a whole row to a row of the call's own, as an arm -/
theorem app_own {w : World} {ops : Array Oper} {rest : List Oper} {o : Oper} {a : Act} {Q : Exit → Act → World → Prop} (hgd : o.guard = none) (s x : Operand)
    (ho : o.op = .call { callee := .builtin .append, args := #[s, x], argTypes := #[22, 22] }) {B : Nat} {v : Value} {l : List Int} (hs : a.eval s = v) (hown : Own w B v l)
    {u : Value} {m : List Int} (hx : a.eval x = u) (hr : Rd w u m.length 1 (ints m)) (hb : l.length + m.length ≤ 17592186044416) (hB : B ≤ w.heap.size)
    (h : ∀ v' w', Own w' B v' (l ++ m) → w.grownBy w' v.ownBlock → (v'.ownBlock = v.ownBlock ∨ v'.ownBlock = some w.heap.size) → wpList Try.prog ops Q rest (a.put o.dst v') w') :
    wpList Try.prog ops Q (o :: rest) a w := by
  obtain ⟨i0, hi0, hz0, hz1, hz2⟩ := info_parts infoE
  refine wpList_append_rd hgd s x 22 ho B 3 i0 _ 1 8 Try.underlying22 hi0 hz0 hz1 hz2 rfl (by omega) v l.length (ints l) hs hown u m.length (ints m) hx hr (by unfold maxLen; omega) (by omega) hB ?_
  intro v' w' h1 h2 h3
  refine h v' w' ?_ h2 h3
  unfold Own
  rw [ints_append, List.length_append]
  exact h1

/-- the law for append of one number to a row of the call's own, as an arm: the new one lies in a new block -/
theorem app_one {w : World} {ops : Array Oper} {rest : List Oper} {o : Oper} {a : Act} {Q : Exit → Act → World → Prop} (hgd : o.guard = none) (s x : Operand)
    (ho : o.op = .call { callee := .builtin .append, args := #[s, x], argTypes := #[22, 22] }) {B : Nat} {v : Value} {l : List Int} (hs : a.eval s = v) (hown : Own w B v l)
    {d n c : Nat} (hx : a.eval x = .slice (some ⟨d, 0, none⟩) n c) (hn : n = 1) {y : Int} {t : TypeId} (hd : w.heap[d]? = some (.cells #[.int .i64 y] t (0, 0))) (hc : 1 ≤ c) (hb : l.length < 17592186044416) (hB : B ≤ w.heap.size)
    (h : ∀ v' w', Own w' B v' (l ++ [y]) → w.grownBy w' v.ownBlock → (v'.ownBlock = v.ownBlock ∨ v'.ownBlock = some w.heap.size) → wpList Try.prog ops Q rest (a.put o.dst v') w') :
    wpList Try.prog ops Q (o :: rest) a w := by
  subst hn
  refine app_own (m := [y]) hgd s x ho hs hown hx ⟨rfl, ints_one _, .inr ⟨⟨d, 0, none⟩, c, rfl, hc, ?_⟩⟩ (by simp; omega) hB h
  intro j u hj
  match j, hj with
  | 0, hj =>
    simp [ints] at hj
    subst hj
    rw [show (⟨d, 0, none⟩ : Addr).add 0 = ⟨d, 0, none⟩ from rfl, cell_of hd]
    rfl
  | j + 1, hj => simp [ints] at hj

end Go.Proofs.Ytebhmbejfpbpeaa.Nums
