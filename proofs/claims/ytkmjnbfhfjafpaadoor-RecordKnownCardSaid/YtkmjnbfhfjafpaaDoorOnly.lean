/- A world of which just some blocks are looked at: what is read there may be written over without turning what lies elsewhere. -/
import Derived.Test.YtkmjnbfhfjafpaaDoorOwn
namespace Go.Proofs.YtkmjnbfhfjafpaaDoor
set_option linter.unusedVariables false
set_option linter.unusedSimpArgs false
open Go.RowKit
def keepO : Option Obj → Obj
  | some (.cells cs t (0, 0)) => .cells cs t (0, 0)
  | _ => .cells #[] 0 (0, 0)
/-- w's blocks from lo on, below hi, that may be written. -/
def only (w : World) (lo hi : Nat) : World :=
  { heap := Array.ofFn (n := hi) fun i => if lo ≤ i.1 then keepO w.heap[i.1]? else .cells #[] 0 (0, 0), tape := fun _ _ => 0, drawn := 0, os := default, output := #[] }
section
variable {w w' : World} {lo hi : Nat}
theorem only_heap (b : Nat) : (only w lo hi).heap[b]? = if b < hi then some (if lo ≤ b then keepO w.heap[b]? else .cells #[] 0 (0, 0)) else none := by
  unfold only
  simp only [Array.getElem?_ofFn]
  by_cases h : b < hi <;> simp [h]
theorem only_cell {p : Addr} {v : Value} (h : (only w lo hi).cell? p = some v) : lo ≤ p.block ∧ p.block < hi ∧ w.cell? p = some v ∧ w.frozen? p = false ∧ ∃ cs t, w.heap[p.block]? = some (.cells cs t (0, 0)) := by
  unfold World.cell? at h
  rw [only_heap] at h
  by_cases h1 : p.block < hi
  · by_cases h2 : lo ≤ p.block
    · rw [if_pos h1, if_pos h2] at h
      cases hb : w.heap[p.block]? with
      | none => rw [hb] at h; simp [keepO] at h
      | some o =>
        rw [hb] at h
        cases o with
        | cells cs t fr =>
          by_cases hfr : fr = (0, 0)
          · subst hfr
            refine ⟨h2, h1, ?_, ?_, cs, t, rfl⟩
            · unfold World.cell?; rw [hb]; exact h
            · unfold World.frozen?; rw [hb]; simp
          · have e : keepO (some (.cells cs t fr)) = .cells #[] 0 (0, 0) := by
              unfold keepO
              split
              · rename_i hh
                injection hh with hh
                injection hh with _ _ hh
                exact absurd hh hfr
              · rfl
            rw [e] at h
            simp at h
        | _ => simp [keepO] at h
    · rw [if_pos h1, if_neg h2] at h
      simp at h
  · rw [if_neg h1] at h
    simp at h
theorem cell_only {b i : Nat} {cs : Array Value} {t : TypeId} {v : Value} (hb : w.heap[b]? = some (.cells cs t (0, 0))) (h1 : lo ≤ b) (h2 : b < hi) (hv : cs[i]? = some v) : (only w lo hi).cell? ⟨b, i, none⟩ = some v := by
  unfold World.cell?
  rw [only_heap, if_pos h2, if_pos h1, hb]
  simpa [keepO] using hv
theorem only_cle : Cle (only w lo hi) w := fun _ _ h => (only_cell h).2.2.1
theorem only_wide {lo' hi' : Nat} (h1 : lo' ≤ lo) (h2 : hi ≤ hi') : Cle (only w lo hi) (only w lo' hi') := fun p v h => by
  obtain ⟨a, b, _, _, cs, t, hh⟩ := only_cell h
  have hc := (only_cell h).2.2.1
  have hs : p.spot = none := by
    unfold World.cell? at hc
    rw [hh] at hc
    cases hp : p.spot with
    | none => rfl
    | some x => simp [hp] at hc
  obtain ⟨pb, po, ps⟩ := p
  obtain rfl : ps = none := hs
  refine cell_only (w := w) hh (Nat.le_trans h1 a) (Nat.lt_of_lt_of_le b h2) ?_
  unfold World.cell? at hc
  rw [hh] at hc
  simpa using hc
theorem only_keep (h : ∀ b, lo ≤ b → b < hi → w'.heap[b]? = w.heap[b]?) : only w' lo hi = only w lo hi := by
  unfold only
  congr 1
  apply Array.ext
  · simp
  · intro i h1 h2
    simp only [Array.getElem_ofFn]
    split
    · rw [h i (by assumption) (by simpa using h1)]
    · rfl
theorem only_ext (hE : Ext w w') (h : hi ≤ w.heap.size) : only w' lo hi = only w lo hi :=
  only_keep fun b _ h2 => hE.block b (by omega)
/-- w' is w with new blocks, but for blocks from lo on, below hi. -/
structure Exc (lo hi : Nat) (w w' : World) : Prop where
  os : w'.os = w.os
  tape : w'.tape = w.tape
  output : w'.output = w.output
  size : w.heap.size ≤ w'.heap.size
  block : ∀ k, k < w.heap.size → (k < lo ∨ hi ≤ k) → w'.heap[k]? = w.heap[k]?
theorem Exc.refl (lo hi : Nat) (w : World) : Exc lo hi w w := ⟨rfl, rfl, rfl, Nat.le_refl _, fun _ _ _ => rfl⟩
theorem Exc.trans {a b c : World} (h : Exc lo hi a b) (k : Exc lo hi b c) : Exc lo hi a c :=
  ⟨k.os.trans h.os, k.tape.trans h.tape, k.output.trans h.output, Nat.le_trans h.size k.size, fun i hi h2 => (k.block i (Nat.lt_of_lt_of_le hi h.size) h2).trans (h.block i hi h2)⟩
theorem Ext.exc (h : Ext w w') : Exc lo hi w w' := ⟨h.os, h.tape, h.output, h.size, fun k hk _ => h.block k hk⟩
theorem Exc.drew {a b : World} (h : Exc lo hi a b) : Exc lo hi a b.drew := ⟨h.os, h.tape, h.output, h.size, h.block⟩
theorem Exc.wide {lo' hi' : Nat} (h : Exc lo hi w w') (h1 : lo' ≤ lo) (h2 : hi ≤ hi') : Exc lo' hi' w w' := ⟨h.os, h.tape, h.output, h.size, fun k hk h3 => h.block k hk (by omega)⟩
/-- What was made since a may be written over. -/
theorem Exc.ext {a : World} (h : Ext a w) (k : Exc lo hi w w') (hl : a.heap.size ≤ lo) : Ext a w' :=
  ⟨k.os.trans h.os, k.tape.trans h.tape, k.output.trans h.output, Nat.le_trans h.size k.size, fun b hb => (k.block b (Nat.lt_of_lt_of_le hb h.size) (.inl (by omega))).trans (h.block b hb)⟩
theorem Exc.only {l h : Nat} (k : Exc lo hi w w') (hh : h ≤ w.heap.size) (hd : h ≤ lo ∨ hi ≤ l) : only w' l h = only w l h :=
  only_keep fun b h1 h2 => k.block b (by omega) (by omega)
theorem Exc.setCell {p : Addr} (h1 : lo ≤ p.block) (h2 : p.block < hi) (v : Value) : Exc lo hi w (w.setCell p v) :=
  ⟨rfl, rfl, rfl, by simp [World.setCell], fun k hk h3 => by
    simp only [World.setCell, Array.getElem?_modify]
    rw [if_neg (by omega)]⟩
/-- v' stands where v stood: the same, or a byte where a byte was. -/
def Turn (v v' : Value) : Prop := v' = v ∨ ∃ x y : UInt8, v = .int .u8 x.toNat ∧ v' = .int .u8 y.toNat
theorem Turn.trans {a b c : Value} (h : Turn a b) (k : Turn b c) : Turn a c := by
  rcases h with rfl | ⟨x, y, rfl, rfl⟩
  · exact k
  · rcases k with rfl | ⟨x', y', _, rfl⟩
    · exact .inr ⟨x, y, rfl, rfl⟩
    · exact .inr ⟨x, y', rfl, rfl⟩
/-- Cells may change, but a byte stays a byte, and what is no byte stays as it is. -/
def Kind (w w' : World) : Prop := ∀ (b : Nat) (cs : Array Value) (t : TypeId), w.heap[b]? = some (.cells cs t (0, 0)) → ∃ cs' : Array Value, w'.heap[b]? = some (.cells cs' t (0, 0)) ∧ ∀ (i : Nat) (v : Value), cs[i]? = some v → ∃ v', cs'[i]? = some v' ∧ Turn v v'
theorem Kind.refl (w : World) : Kind w w := fun b cs t h => ⟨cs, h, fun i v hv => ⟨v, hv, .inl rfl⟩⟩
theorem Kind.trans {a b c : World} (h : Kind a b) (k : Kind b c) : Kind a c := fun n cs t hc => by
  obtain ⟨c1, h1, e1⟩ := h n cs t hc
  obtain ⟨c2, h2, e2⟩ := k n c1 t h1
  refine ⟨c2, h2, fun i v hv => ?_⟩
  obtain ⟨v1, a1, t1⟩ := e1 i v hv
  obtain ⟨v2, a2, t2⟩ := e2 i v1 a1
  exact ⟨v2, a2, t1.trans t2⟩
theorem Kind.ext (h : Ext w w') : Kind w w' := fun b cs t hc => ⟨cs, h.blk hc, fun i v hv => ⟨v, hv, .inl rfl⟩⟩
theorem Kind.set {p : Addr} {x : UInt8} (h : w.cell? p = some (.int .u8 x.toNat)) (y : UInt8) : Kind w (w.setCell p (.int .u8 y.toNat)) := fun b cs t hc => by
  by_cases e : p.block = b
  · have hs : p.spot = none := by
      unfold World.cell? at h
      rw [e, hc] at h
      cases hp : p.spot with
      | none => rfl
      | some z => simp [hp] at h
    refine ⟨cs.setIfInBounds p.off (.int .u8 y.toNat), by simp [World.setCell, Array.getElem?_modify, e, hc, hs], fun i v hv => ?_⟩
    by_cases ei : p.off = i
    · have hlt := (Array.getElem?_eq_some_iff.1 hv).1
      refine ⟨.int .u8 y.toNat, by rw [Array.getElem?_setIfInBounds, if_pos ei, if_pos (by omega)], .inr ⟨x, y, ?_, rfl⟩⟩
      unfold World.cell? at h
      rw [e, hc, hs] at h
      simp only [Option.isSome_none, Bool.false_eq_true, if_false] at h
      rw [ei, hv] at h
      exact Option.some.inj h
    · exact ⟨v, by rw [Array.getElem?_setIfInBounds, if_neg ei]; exact hv, .inl rfl⟩
  · exact ⟨cs, by simp only [World.setCell, Array.getElem?_modify]; rw [if_neg e]; exact hc, fun i v hv => ⟨v, hv, .inl rfl⟩⟩
theorem only_spot {p : Addr} {v : Value} (h : (only w lo hi).cell? p = some v) : p.spot = none := by
  obtain ⟨_, _, hc, _, cs, t, hh⟩ := only_cell h
  unfold World.cell? at hc
  rw [hh] at hc
  cases hp : p.spot with
  | none => rfl
  | some x => simp [hp] at hc
theorem Kind.only {p : Addr} {v : Value} (k : Kind w w') (h : (only w lo hi).cell? p = some v) : ∃ v', (only w' lo hi).cell? p = some v' ∧ Turn v v' := by
  have hs := only_spot h
  obtain ⟨a, b, hc, _, cs, t, hh⟩ := only_cell h
  obtain ⟨pb, po, ps⟩ := p
  obtain rfl : ps = none := hs
  obtain ⟨cs', h2, h3⟩ := k _ _ _ hh
  obtain ⟨v', h4, h5⟩ := h3 po v (by unfold World.cell? at hc; rw [hh] at hc; simpa using hc)
  exact ⟨v', cell_only h2 a b h4, h5⟩
/-- A slice of the call's own, read in its blocks alone. -/
theorem own_only {α : Type} {d : Rd α} {f : α → List Value} (hf : ∀ x, (f x).length = d.sz) (hK : ∀ w x, d.K w x (f x)) {base : Nat} {e : TypeId} {v : Value} {l : List α}
    (h : w.ownsRow base e d.sz v l.length (l.flatMap f)) (hb : lo ≤ base) (hh : w.heap.size ≤ hi) : ∃ A c, v = .slice A l.length c ∧ l.length ≤ c ∧ c ≤ maxLen ∧ d.Sl (only w lo hi) A l.length l := by
  obtain ⟨hl, ⟨rfl, hn⟩ | ⟨g, cap, cur, rfl, hbg, hc, hle, hm, hs, ht⟩⟩ := h
  · have hl0 : l = [] := List.eq_nil_of_length_eq_zero hn
    subst hl0
    exact ⟨none, 0, rfl, Nat.le_refl _, by decide, Rd.Sl.none d _ none⟩
  · have hg : g < hi := Nat.lt_of_lt_of_le (Array.getElem?_eq_some_iff.1 hc).1 hh
    refine ⟨some ⟨g, 0, none⟩, cap, rfl, hle, hm, rfl, fun _ => ⟨g, 0, rfl, fun i hi' => ⟨f l[i], hK _ _, fun j u hu => ?_⟩⟩⟩
    have hj : j < d.sz := by
      have := (List.getElem?_eq_some_iff.1 hu).1
      rw [hf] at this; exact this
    have hlt : i * d.sz + j < l.length * d.sz := by
      have := Nat.mul_le_mul_right d.sz (show i + 1 ≤ l.length by omega)
      rw [Nat.add_mul] at this; omega
    rw [← flat_get hf l i j hi' hj, ← ht, List.getElem?_take_of_lt hlt] at hu
    rw [show 0 + i * d.sz + j = i * d.sz + j by omega]
    exact cell_only hc (Nat.le_trans hb hbg) hg (by simpa using hu)
end
end Go.Proofs.YtkmjnbfhfjafpaaDoor
