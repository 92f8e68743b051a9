/- Slices of the call's own: what append leaves, kept across calls, read by a descriptor. -/
import Derived.Test.YtmdjndhebgnjoaaDoorRead
import Derived.WalkKit
namespace Go.Proofs.YtmdjndhebgnjoaaDoor
set_option linter.unusedVariables false
set_option linter.unusedSimpArgs false
open Go.RowKit
theorem own_ext {w w' : World} {base : Nat} {e : TypeId} {size : Nat} {v : Value} {n : Nat} {xs : List Value} (h : w.ownsRow base e size v n xs) (hE : Ext w w') : w'.ownsRow base e size v n xs := by
  obtain ⟨hl, h⟩ := h
  refine ⟨hl, h.imp id ?_⟩
  rintro ⟨g, cap, cur, h1, h2, h3, h4⟩
  exact ⟨g, cap, cur, h1, h2, hE.blk h3, h4⟩
theorem own_base {w : World} {base base' : Nat} {e : TypeId} {size : Nat} {v : Value} {n : Nat} {xs : List Value} (h : w.ownsRow base e size v n xs) (hb : base' ≤ base) : w.ownsRow base' e size v n xs := by
  obtain ⟨hl, h⟩ := h
  refine ⟨hl, h.imp id ?_⟩
  rintro ⟨g, cap, cur, h1, h2, h3⟩
  exact ⟨g, cap, cur, h1, Nat.le_trans hb h2, h3⟩
theorem grown_ext {w wr w' : World} {e : TypeId} {size : Nat} {v : Value} {n : Nat} {xs : List Value} (h : Ext w wr) (hown : wr.ownsRow w.heap.size e size v n xs) (hg : wr.grownBy w' v.ownBlock) : Ext w w' :=
  Below.grown h hg h.size fun k hk => (hown.lt k hk).1
theorem grown_ext2 {a wr w' : World} {base : Nat} {e : TypeId} {size : Nat} {v : Value} {n : Nat} {xs : List Value} (h : Ext a wr) (hown : wr.ownsRow base e size v n xs) (hg : wr.grownBy w' v.ownBlock) (hb : a.heap.size ≤ base) : Ext a w' :=
  Below.grown h hg h.size fun k hk => Nat.le_trans hb (hown.lt k hk).1
theorem own_ne {w : World} {b1 b2 : Nat} {e1 e2 : TypeId} {s1 s2 : Nat} {v1 v2 : Value} {n1 n2 : Nat} {x1 x2 : List Value} (h1 : w.ownsRow b1 e1 s1 v1 n1 x1) (h2 : w.ownsRow b2 e2 s2 v2 n2 x2) (hne : e1 ≠ e2) : v1.ownBlock = none ∨ v1.ownBlock ≠ v2.ownBlock := by
  obtain ⟨_, ⟨rfl, _⟩ | ⟨g, _, _, rfl, _, hc, _⟩⟩ := h1
  · exact .inl rfl
  · obtain ⟨_, ⟨rfl, _⟩ | ⟨g', _, _, rfl, _, hc', _⟩⟩ := h2
    · exact .inr (by simp [Value.ownBlock])
    · refine .inr fun e => ?_
      simp only [Value.ownBlock, Option.some.injEq] at e
      rw [e, hc'] at hc
      injection hc with hc
      injection hc with _ hc
      exact hne hc.symm
theorem new_cells (w : World) (t : TypeId) (cs : Array Value) (j : Nat) (u : Value) (h : cs.toList[j]? = some u) : (w.alloc (.cells cs t)).cell? ((⟨w.heap.size, 0, none⟩ : Addr).add j) = some u := by
  have e : (⟨w.heap.size, 0, none⟩ : Addr).add j = ⟨w.heap.size, j, none⟩ := by
    unfold Addr.add
    split <;> simp_all
  rw [e]
  exact (Blk.new w t cs).cell j (by simpa using h)
theorem flat_get {α : Type} {f : α → List Value} {sz : Nat} (hf : ∀ x, (f x).length = sz) : ∀ (l : List α) (i j : Nat) (hi : i < l.length), j < sz → (l.flatMap f)[i * sz + j]? = (f l[i])[j]?
  | [], i, j, hi, hj => by simp at hi
  | x :: l, 0, j, hi, hj => by
    rw [List.flatMap_cons, List.getElem?_append_left (by rw [hf]; omega)]
    simp
  | x :: l, i + 1, j, hi, hj => by
    rw [List.flatMap_cons, List.getElem?_append_right (by rw [hf, Nat.add_mul]; omega), hf, show (i + 1) * sz + j - sz = i * sz + j by rw [Nat.add_mul]; omega]
    rw [flat_get hf l i j (by simpa using hi) hj]
    simp
/-- A slice of the call's own, read. -/
theorem own_sl {α : Type} {d : Rd α} {f : α → List Value} (hf : ∀ x, (f x).length = d.sz) (hK : ∀ w x, d.K w x (f x)) {w : World} {base : Nat} {e : TypeId} {v : Value} {l : List α}
    (h : w.ownsRow base e d.sz v l.length (l.flatMap f)) : ∃ A c, v = .slice A l.length c ∧ l.length ≤ c ∧ d.Sl w A l.length l := by
  obtain ⟨hl, ⟨rfl, hn⟩ | ⟨g, cap, cur, rfl, hb, hc, hle, hm, hs, ht⟩⟩ := h
  · have hl0 : l = [] := List.eq_nil_of_length_eq_zero hn
    subst hl0
    exact ⟨none, 0, rfl, Nat.le_refl _, Rd.Sl.none d w none⟩
  · refine ⟨some ⟨g, 0, none⟩, cap, rfl, hle, rfl, fun _ => ⟨g, 0, rfl, fun i hi => ⟨f l[i], hK w _, fun j u hu => ?_⟩⟩⟩
    have hj : j < d.sz := by
      have := (List.getElem?_eq_some_iff.1 hu).1
      rw [hf] at this; exact this
    have hlt : i * d.sz + j < l.length * d.sz := by
      have := Nat.mul_le_mul_right d.sz (show i + 1 ≤ l.length by omega)
      rw [Nat.add_mul] at this; omega
    rw [← flat_get hf l i j hi hj, ← ht, List.getElem?_take_of_lt hlt] at hu
    rw [show 0 + i * d.sz + j = i * d.sz + j by omega]
    exact (cell_of_row w g (i * d.sz + j) cur e (0, 0) hc).trans (by simpa using hu)
end Go.Proofs.YtmdjndhebgnjoaaDoor
