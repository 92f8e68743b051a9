/- Rows of bytes: written over, counted. -/
import Derived.Test.YtkmjnbfhfjafpaaDoorNested
namespace Go.Proofs.YtkmjnbfhfjafpaaDoor
set_option linter.unusedVariables false
set_option linter.unusedSimpArgs false
open Go.RowKit
/-- n cells from A on lie in the blocks from lo on, below hi, and may be written. -/
def RowAt (w : World) (lo hi : Nat) (A : Option Addr) (n : Nat) : Prop := ∀ k, k < n → ∃ b o v, A = some ⟨b, o, none⟩ ∧ (only w lo hi).cell? ⟨b, o + k, none⟩ = some v
def There (lo hi : Nat) (w w' : World) : Prop := ∀ p v, (only w lo hi).cell? p = some v → ∃ v', (only w' lo hi).cell? p = some v'
theorem There.refl (lo hi : Nat) (w : World) : There lo hi w w := fun p v h => ⟨v, h⟩
theorem There.trans {lo hi : Nat} {a b c : World} (h : There lo hi a b) (k : There lo hi b c) : There lo hi a c := fun p v hv => by
  obtain ⟨v1, h1⟩ := h p v hv
  exact k p v1 h1
theorem There.ext {lo hi : Nat} {w w' : World} (h : Ext w w') (hh : hi ≤ w.heap.size) : There lo hi w w' := fun p v hv => ⟨v, by rw [only_ext h hh]; exact hv⟩
theorem There.set {lo hi : Nat} {w : World} (q : Addr) (u : Value) : There lo hi w (w.setCell q u) := fun p v hv => by
  have hs := only_spot hv
  obtain ⟨a, b, hc, _, cs, t, hh⟩ := only_cell hv
  obtain ⟨pb, po, ps⟩ := p
  obtain rfl : ps = none := hs
  unfold World.cell? at hc
  rw [hh] at hc
  simp only [Option.isSome_none, Bool.false_eq_true, if_false] at hc
  by_cases e : q.block = pb
  · have hlt := (Array.getElem?_eq_some_iff.1 hc).1
    have hb : (w.setCell q u).heap[pb]? = some (.cells (if q.spot.isSome then cs else cs.setIfInBounds q.off u) t (0, 0)) := by
      simp only [World.setCell, Array.getElem?_modify]
      rw [if_pos e]
      simp only at hh
      rw [hh]
      rfl
    have hz : po < (if q.spot.isSome then cs else cs.setIfInBounds q.off u).size := by split <;> simpa using hlt
    exact ⟨_, cell_only hb a b (Array.getElem?_eq_getElem hz)⟩
  · have hb : (w.setCell q u).heap[pb]? = some (.cells cs t (0, 0)) := by
      simp only [World.setCell, Array.getElem?_modify]
      rw [if_neg e]
      exact hh
    exact ⟨v, cell_only hb a b hc⟩
theorem Kind.there {lo hi : Nat} {w w' : World} (k : Kind w w') : There lo hi w w' := fun p v hv => by
  obtain ⟨v', h, _⟩ := k.only hv
  exact ⟨v', h⟩
theorem RowAt.there {lo hi : Nat} {w w' : World} {A : Option Addr} {n : Nat} (h : RowAt w lo hi A n) (k : There lo hi w w') : RowAt w' lo hi A n := fun i hi => by
  obtain ⟨b, o, v, e, hv⟩ := h i hi
  obtain ⟨v', hv'⟩ := k _ _ hv
  exact ⟨b, o, v', e, hv'⟩
theorem rowAt_nested {w : World} {lo hi : Nat} {A : Option Addr} {n : Nat} {l : List (List UInt8)} (h : rdB.Sl (only w lo hi) A n l) : RowAt w lo hi A n := fun k hk => by
  obtain ⟨b, o, A', c', e, hv, _⟩ := n_get h k hk
  exact ⟨b, o, _, e, hv⟩
set_option maxHeartbeats 1000000 in
set_option maxRecDepth 100000 in
theorem markN_any (k : Nat) (hk : k ≤ 8589934592) (w : World) : Calls Tryd.prog 77 #[.int .i64 k] w fun e w' => ∃ g, e = .returned (.slice (some ⟨g, 0, none⟩) 1 1) ∧ Ext w w' := by
  go_enter Tryd.func77, Tryd.ntmps77
  go_wp2_with fail
  go_ret
  exact ⟨_, rfl, (Ext.refl w).alloc _⟩
set_option maxHeartbeats 1000000 in
set_option maxRecDepth 100000 in
theorem spoilNested_any (w : World) (lo hi : Nat) (hh : hi ≤ w.heap.size) (A : Option Addr) (n c : Nat) (hS : RowAt w lo hi A n) (hc : n ≤ c) (hn : n ≤ 4294967296) :
    Calls Tryd.prog 62 #[.slice A n c] w fun e w' => e = .returned (.tuple #[]) ∧ Exc lo hi w w' := by
  go_enter Tryd.func62, Tryd.ntmps62
  go_wp2_with fail
  go_loopw [2] (fun i wr => ∃ k : Nat, k ≤ n ∧ i = .int .i64 k ∧ Exc lo hi w wr ∧ There lo hi w wr) (fun i _ => n - (intOf i).toNat)
  case atStart => exact ⟨0, by omega, rfl, Exc.refl _ _ _, There.refl _ _ _⟩
  case round =>
    obtain ⟨k, hkn, rfl, hwr, hT⟩ := hrel
    by_cases hlt : k < n
    · obtain ⟨b, o, y, rfl, x0⟩ := hS k hlt
      have hhr : hi ≤ wr.heap.size := Nat.le_trans hh hwr.size
      clear hS
      go_wp2_with (go_at_call 77; rw [show ((k : Int) + 7) = ((k + 7 : Nat) : Int) by omega]; (with_reducible refine (markN_any (k + 7) (by omega) _).mono ?_); rintro e w2 ⟨g2, rfl, hE⟩; obtain ⟨y2, z0⟩ := (hT.trans (There.ext hE hhr)) _ _ x0; obtain ⟨hl1, hl2, hy, hf2, -⟩ := only_cell z0; clear z0)
      go_roundw
      case rel => exact ⟨k + 1, by omega, by go_num, (hwr.trans (Ext.exc hE)).trans (Exc.setCell hl1 hl2 _), (hT.trans (There.ext hE hhr)).trans (There.set _ _)⟩
      case measure => simp [intOf]; omega
    · obtain rfl : k = n := by omega
      go_wp2_with fail
      go_end0
      exact ⟨rfl, hwr⟩
def allN : List (List UInt8) → Nat → Nat
  | [], n => n
  | x :: l, n => allN l (min (n + x.length + 1) 1099511627776)
theorem allN_le : ∀ (l : List (List UInt8)) (n : Nat), n ≤ 1099511627776 → allN l n ≤ 1099511627776
  | [], n, h => h
  | x :: l, n, h => allN_le l _ (Nat.min_le_right _ _)
theorem allN_ge : ∀ (l : List (List UInt8)) (n : Nat), n ≤ 1099511627776 → n ≤ allN l n
  | [], n, h => Nat.le_refl _
  | x :: l, n, h => Nat.le_trans (by omega : n ≤ min (n + x.length + 1) 1099511627776) (allN_ge l _ (Nat.min_le_right _ _))
theorem allN_mem : ∀ (l : List (List UInt8)) (n : Nat), n ≤ 1099511627776 → allN l n < 1099511627776 → ∀ x ∈ l, n + x.length < allN l n
  | y :: l, n, h, hb, x, hx => by
    have h1 := allN_ge l (min (n + y.length + 1) 1099511627776) (Nat.min_le_right _ _)
    have e : allN (y :: l) n = allN l (min (n + y.length + 1) 1099511627776) := rfl
    rcases List.mem_cons.1 hx with rfl | hx
    · rw [e] at hb ⊢; omega
    · have := allN_mem l (min (n + y.length + 1) 1099511627776) (Nat.min_le_right _ _) hb x hx
      rw [e] at hb ⊢; omega
theorem allN_take (l : List (List UInt8)) : ∀ (k : Nat) (n : Nat) (h : k < l.length), allN (l.take (k + 1)) n = min (allN (l.take k) n + l[k].length + 1) 1099511627776 := by
  induction l with
  | nil => intro k n h; simp at h
  | cons x l ih =>
    intro k n h
    cases k with
    | zero => rfl
    | succ k => exact ih k _ (by simpa using h)
set_option maxHeartbeats 1000000 in
set_option maxRecDepth 100000 in
theorem all_any (w : World) (A : Option Addr) (c : Nat) (l : List (List UInt8)) (hS : rdB.Sl w A l.length l) (hc : l.length ≤ c) (hn : l.length ≤ 9223372036854775807) (hx : ∀ x ∈ l, x.length ≤ 1000000000000000000) :
    Calls Tryd.prog 28 #[.slice A l.length c] w fun e w' => e = .returned (.int .i64 (allN l 0)) ∧ Ext w w' := by
  obtain ⟨n, hln⟩ : ∃ n, l.length = n := ⟨_, rfl⟩
  rw [hln] at hS hc hn ⊢
  go_enter Tryd.func28, Tryd.ntmps28
  go_wp2_with fail
  go_loopw [3, 4] (fun s i wr => ∃ k m : Nat, k ≤ n ∧ i = .int .i64 k ∧ m = allN (l.take k) 0 ∧ s = .int .i64 m ∧ Ext w wr) (fun _ i _ => n - (intOf i).toNat)
  case atStart => exact ⟨0, 0, by omega, rfl, rfl, rfl, Ext.refl _⟩
  case round =>
    obtain ⟨k, m, hkn, rfl, hm, rfl, hwr⟩ := hrel
    by_cases hlt : k < n
    · obtain ⟨b, o, A1, c1, rfl, x0, h1c, h1S⟩ := n_get hS k hlt
      have hxm := hx _ (List.getElem_mem (l := l) (n := k) (by omega))
      have htk := allN_take l k 0 (by omega)
      have hml := allN_le (l.take k) 0 (by omega)
      rw [← hm] at htk hml
      generalize hx : l[k]'(by omega) = x at *
      obtain ⟨nx, hnx⟩ : ∃ nx, x.length = nx := ⟨_, rfl⟩
      rw [hnx] at x0 htk hxm
      have x0 := hwr.cellk x0
      have HT := Lib.hid htk
      clear hS h1S hx hm htk h1c
      go_wp2_with fail
      all_goals
        go_roundw
        case rel =>
          refine ⟨k + 1, _, by omega, by go_num, HT.out.symm, ?_, hwr⟩
          congr 1
          omega
        case measure => simp [intOf]; omega
    · obtain rfl : k = n := by omega
      rw [← hln, List.take_length] at hm
      go_wp2_with fail
      go_ret
      exact ⟨ret_int (by rw [hm]), hwr⟩
end Go.Proofs.YtkmjnbfhfjafpaaDoor
