/- Proved: what Count, Clear, New, Clone of package bitmap do and answer. -/
import Derived.Test.YtoipjmhfeggdeaaDoorBitmap3
import Derived.Deep.MidRow
import Derived.Deep.WholeRow
namespace Go.Proofs.YtoipjmhfeggdeaaDoor.Bitmap
open Go.RowKit Go.Proofs.YtoipjmhfeggdeaaDoor.H Go.Proofs.YtoipjmhfeggdeaaDoor.Nums Go.Proofs.YtoipjmhfeggdeaaDoor.BitPure
set_option linter.unusedVariables false

theorem S.range {w : World} {B g n : Nat} {ws : List Nat} (h : S w B g n ws) : w.rangeAt g 2 (ws.map fun x : Nat => Value.int .u64 x) := fun j v hv => by
  rw [cell_of h.blk (2 + j)]
  unfold arr
  rw [show 2 + j = j + 1 + 1 by omega]
  simpa using hv

theorem info_arr : (Tryd.prog.info? 74).map (·.size) = some 32 := by kernel_rfl

theorem info_set : (Tryd.prog.info? 76).map (·.size) = some 34 := by kernel_rfl

theorem load_words {ops : Array Oper} {rest : List Oper} {op : Oper} {a : Act} {w : World} {Q : Exit → Act → World → Prop} (hgd : op.guard = none) (x : Operand) (ho : op.op = .load 74 x)
    {B g n : Nat} {ws : List Nat} (hx : a.eval x = .pointer (some ⟨g, 2, none⟩)) (hs : S w B g n ws) (A : Array Value) (hA : A = (ws.map fun x : Nat => Value.int .u64 x).toArray)
    (h : wpList Tryd.prog ops Q rest (a.put op.dst (.agg A)) w) : wpList Tryd.prog ops Q (op :: rest) a w := by
  subst hA
  exact wpList_load_mid hgd 74 x ho g 2 hx _ _ hs.range Tryd.underlying74 rfl (by rw [info_arr, List.length_map, hs.ok.len]) h

theorem index_words (A : Array Value) (k : Nat) (v : Value) (hk : k < 32) (hx : A[k]? = some v) (w : World) : (Instr.index 74 (.agg A) (.int .i64 k)).run Tryd.prog w = .ok v w := by
  have i1 : (0 : Int) ≤ (k : Int) ∧ (k : Int) < 32 := by omega
  simp [Instr.index, part, asIntOf, run_underlying Tryd.underlying74, hx, hk, go_sem]

set_option maxHeartbeats 3200000 in
theorem count_any (B g n : Nat) (ws : List Nat) (w : World) (hs : S w B g n ws) :
    Calls Tryd.prog 39 #[.pointer (some ⟨g, 0, none⟩)] w (Quiet w (.int .i64 (elems ws).length)) := by
  obtain ⟨A, hA⟩ : ∃ A, A = (ws.map fun x : Nat => Value.int .u64 x).toArray := ⟨_, rfl⟩
  have HS := Lib.hid hs
  have HA := Lib.hid hA
  clear hs hA
  go_enter Tryd.func39, Tryd.ntmps39
  go_wp2_with (refine load_words rfl _ rfl rfl HS.out A HA.out ?_)
  go_loopw [3, 12] (fun s v wr => ∃ k m : Nat, k ≤ 32 ∧ v = .int .i64 k ∧ s = .int .i64 m ∧ Hid (∃ q, wr = w.drewN q) ∧ Hid (m = upto ws k)) (fun _ v _ => 32 - (intOf v).toNat)
  case atStart => exact ⟨0, 0, by omega, rfl, rfl, Lib.hid ⟨0, rfl⟩, Lib.hid rfl⟩
  case round =>
    obtain ⟨k, m, hk, rfl, rfl, HQ, HM⟩ := hrel
    have i1 : (0 : Int) ≤ (k : Int) := Int.natCast_nonneg _
    have i0 : (0 : Int) ≤ (m : Int) := Int.natCast_nonneg _
    obtain ⟨q, rfl⟩ := HQ.out
    by_cases hlt : k < 32
    · have i2 : (k : Int) < 32 := by omega
      have hp := pcnt_le (wd ws k)
      have HP := Lib.hid hp
      have i3 : (0 : Int) ≤ (pcnt (wd ws k) : Int) := Int.natCast_nonneg _
      have i4 : (m : Int) ≤ 2048 := by have := HM.out; have := upto_le ws k hk; omega
      have i5 : (pcnt (wd ws k) : Int) ≤ 64 := by omega
      have HM1 := Lib.hid (show m + pcnt (wd ws k) = upto ws (k + 1) by rw [upto_succ, ← HM.out])
      have HL := Lib.hid (HS.out.ok.lt k)
      have HLT := Lib.hid hlt
      have hx : A[k]? = some (.int .u64 (wd ws k)) := by
        rw [HA.out]
        unfold wd
        have := HS.out.ok.len
        simp [this, hlt]
      have hix := fun w => index_words A k _ hlt hx w
      clear hp hlt HM hx
      go_wp2_with fail
      with_reducible refine (ones_any (wd ws k) HL.out _).mono ?_
      rintro e w2 ⟨rfl, q2, rfl⟩
      go_wp2_with fail
      go_roundw
      case rel => exact ⟨k + 1, m + pcnt (wd ws k), HLT.out, by go_num, by go_num, Lib.hid ⟨_, rfl⟩, HM1⟩
      case measure => have := HLT.out; simp [intOf]; omega
    · obtain rfl : k = 32 := by omega
      have HE := Lib.hid (show m = (elems ws).length by rw [HM.out, upto_all])
      go_wp2_with fail
      go_ret
      exact ⟨by rw [← HE.out]; rfl, _, rfl⟩

/-! ### Clear -/
theorem fr_setCells {S : Nat → Prop} {g : Nat} (hS : S g) {w0 : World} : ∀ (vs : List Value) (o : Nat) (w : World), Fr S w0 w → Fr S w0 (w.setCells g o vs)
  | [], _, _, h => h
  | v :: r, o, w, h => fr_setCells hS r (o + 1) _ (h.setCell (p := ⟨g, o, none⟩) (.inl hS) v)

theorem row_setCells {g : Nat} {t : TypeId} : ∀ (vs : List Value) (o : Nat) (w : World) (cs : Array Value), w.heap[g]? = some (.cells cs t (0, 0)) → ∃ X, (w.setCells g o vs).heap[g]? = some (.cells X t (0, 0)) ∧ X.size = cs.size
  | [], _, _, cs, h => ⟨cs, h, rfl⟩
  | v :: r, o, w, cs, h => by
    obtain ⟨X, h1, h2⟩ := row_setCells r (o + 1) _ _ (set_of h o v)
    exact ⟨X, h1, by rw [h2]; simp⟩

def zs : List Value := List.replicate 32 (.int .u64 0)

/-- no number -/
def w0 : List Nat := List.replicate 32 0

theorem none_w0 (i : Nat) : has w0 i = false := by
  unfold has wd w0
  rw [List.getD_eq_getElem?_getD, List.getElem?_replicate]
  split <;> simp

theorem w0_elems : elems w0 = [] := new_elems

theorem wd_of {w : World} {g : Nat} {b : Bool} {n : Int} {ws : List Nat} {t : TypeId} (hb : w.heap[g]? = some (.cells (arr b n ws) t (0, 0))) (hl : ws.length = 32) (j : Nat) (hj : j < zs.length) :
    (w.cell? ⟨g, 2 + j, none⟩).isSome = true ∧ w.frozen? ⟨g, 2 + j, none⟩ = false := by
  have hj' : j < 32 := by simpa [zs] using hj
  exact ⟨by rw [cell_of hb, arr_at b n ws j (by omega)]; rfl, free_of hb _⟩

theorem row_cleared {w : World} {g : Nat} {b : Bool} {n : Int} {ws : List Nat} {t : TypeId} (hb : w.heap[g]? = some (.cells (arr b n ws) t (0, 0))) (hl : ws.length = 32) : (w.setCells g 2 zs).heap[g]? = some (.cells (arr b n w0) t (0, 0)) := by
  obtain ⟨X, h1, h2⟩ := row_setCells zs 2 w _ hb
  have hsz : (arr b n ws).size = 34 := by unfold arr; simp [hl]
  rw [hsz] at h2
  have hin := World.cell?_setCells_in g zs 2 w (fun j hj => (wd_of hb hl j hj).1)
  have hX : X = arr b n w0 := by
    apply Array.ext_getElem?
    intro i
    by_cases hi : i < 2
    · have e := World.cell?_setCells_out g zs 2 w ⟨g, i, none⟩ (fun _ _ => .inl hi)
      rw [cell_of h1, cell_of hb] at e
      rw [e]
      unfold arr
      match i, hi with
      | 0, _ => rfl
      | 1, _ => rfl
    · by_cases hi2 : i < 34
      · have e := hin (i - 2) (by simp [zs]; omega)
        rw [show 2 + (i - 2) = i by omega, cell_of h1] at e
        rw [e]
        have e2 := arr_at b n w0 (i - 2) (by simp [w0]; omega)
        rw [show 2 + (i - 2) = i by omega] at e2
        rw [e2]
        have e3 : wd w0 (i - 2) = 0 := by unfold wd w0; rw [List.getD_eq_getElem?_getD, List.getElem?_replicate]; split <;> rfl
        rw [e3]
        unfold zs
        rw [List.getElem_replicate]
        rfl
      · rw [Array.getElem?_eq_none (by omega), Array.getElem?_eq_none (by unfold arr w0; simp; omega)]
  rw [h1, hX]

theorem S.cleared {w : World} {B g n : Nat} {ws : List Nat} (h : S w B g n ws) : S (w.setCells g 2 zs) B g n w0 :=
  ⟨row_cleared h.blk h.ok.len, h.base, Words.new, h.top, fun i hi => by rw [none_w0] at hi; exact Bool.noConfusion hi⟩

/-- a set that nobody made -/
def Odd (w : World) (g : Nat) : Prop := w.heap[g]? = some (.cells (arr false 0 w0) 76 (0, 0))

end Go.Proofs.YtoipjmhfeggdeaaDoor.Bitmap
