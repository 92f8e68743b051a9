/- Words that the other texts of this seat use: a world that extends another one, boxes of parameters, closing lemmas. -/
import Derived.Test.YtmdjndhebgnjoaaDoorChecked
import Derived.WalkKit
import Derived.WalkLawsBesides
import Derived.WalkSpells
import Derived.Outline
import Derived.Below
import Derived.Deep.RegionHeld3
import Derived.Deep.RegionWith
import Derived.Deep.QuietTactic
import Derived.Deep.DeepCutAuto
import Derived.KernelRfl
import Derived.BigQuiet
import Derived.Lib.Hide
import Derived.OneCell
namespace Go.Proofs.YtmdjndhebgnjoaaDoor
set_option linter.unusedVariables false
set_option linter.unusedSimpArgs false
open Go.RowKit

/-- w' is w with new blocks: what was there is there. -/
def Ext (w w' : World) : Prop := Below w.heap.size w w'
theorem Ext.refl (w : World) : Ext w w := Below.refl _ _
theorem Ext.trans {a b c : World} (h : Ext a b) (k : Ext b c) : Ext a c := Below.trans h (Below.mono k h.size)
theorem Ext.alloc {a b : World} (h : Ext a b) (o : Obj) : Ext a (b.alloc o) := Below.alloc h h.size o
theorem Ext.drew {a b : World} (h : Ext a b) : Ext a b.drew := Below.drew h
theorem Ext.drewN {a b : World} (h : Ext a b) (n : Nat) : Ext a (b.drewN n) := ⟨h.os, h.tape, h.output, h.size, h.block⟩
theorem Ext.le {a b : World} (h : Ext a b) : a.heap.size ≤ b.heap.size := h.size
theorem Ext.cellk {a b : World} (h : Ext a b) {p : Addr} {v : Value} (hc : a.cell? p = some v) : b.cell? p = some v :=
  (Below.cell h (World.block_lt_of_cell? a p hc)).trans hc
theorem Ext.blk {a b : World} (h : Ext a b) {k : Nat} {o : Obj} (hc : a.heap[k]? = some o) : b.heap[k]? = some o :=
  (Below.block h k (Array.getElem?_eq_some_iff.1 hc).1).trans hc
theorem Ext.box {w wr : World} {cs : Array Value} {t : TypeId} (h : Ext (w.alloc (.cells cs t)) wr) (i : Nat) {v : Value} (hv : cs[i]? = some v) : wr.cell? ⟨w.heap.size, i, none⟩ = some v := by
  have h1 := Below.cell h (p := ⟨w.heap.size, i, none⟩) (by simp)
  rw [h1, World.cell?_alloc_new]; exact hv
theorem Ext.set {a b : World} (h : Ext a b) {p : Addr} (hp : a.heap.size ≤ p.block) (v : Value) : Ext a (b.setCell p v) := Below.setCell h hp v
theorem Ext.lt {a b : World} (h : Ext a b) {k : Nat} (hk : k < a.heap.size) : k < b.heap.size := Nat.lt_of_lt_of_le hk h.size
/-- Block g is just these cells, none of them frozen. -/
def Blk (w : World) (g : Nat) (t : TypeId) (cs : Array Value) : Prop := w.heap[g]? = some (.cells cs t (0, 0))
section
variable {w w' : World} {g : Nat} {t : TypeId} {cs : Array Value}
theorem Blk.lt (h : Blk w g t cs) : g < w.heap.size := (Array.getElem?_eq_some_iff.1 h).1
theorem Blk.cell (h : Blk w g t cs) (i : Nat) {v : Value} (hv : cs[i]? = some v) : w.cell? ⟨g, i, none⟩ = some v := (cell_of_row w g i cs t (0, 0) h).trans hv
theorem Blk.frozen (h : Blk w g t cs) (i : Nat) : w.frozen? ⟨g, i, none⟩ = false := by
  unfold Blk at h
  simp [World.frozen?, h]
theorem Blk.new (w : World) (t : TypeId) (cs : Array Value) : Blk (w.alloc (.cells cs t)) w.heap.size t cs := heap_alloc_new w _
theorem Blk.drew (h : Blk w g t cs) : Blk w.drew g t cs := h
theorem Blk.drewN (h : Blk w g t cs) (n : Nat) : Blk (w.drewN n) g t cs := h
theorem Blk.alloc (h : Blk w g t cs) (o : Obj) : Blk (w.alloc o) g t cs := (Below.heap_alloc w o g h.lt).trans h
theorem Blk.set_ (h : Blk w g t cs) (i : Nat) (u : Value) : Blk (w.setCell ⟨g, i, none⟩ u) g t (cs.setIfInBounds i u) := by
  unfold Blk at h ⊢
  simp [World.setCell, Array.getElem?_modify, h]
theorem Blk.far (h : Blk w g t cs) {p : Addr} (hp : g ≠ p.block) (u : Value) : Blk (w.setCell p u) g t cs := (Below.heap_setCell w p u g hp).trans h
theorem Blk.ext (h : Blk w g t cs) (hb : Ext w w') : Blk w' g t cs := hb.blk h
theorem Blk.ne_ {g' : Nat} {t' : TypeId} {cs' : Array Value} (h : Blk w g t cs) (h' : Blk w g' t' cs') (hne : t ≠ t') : g ≠ g' := by
  rintro rfl
  unfold Blk at h h'
  rw [h] at h'
  injection h' with h'
  injection h' with _ ht
  exact hne ht
theorem st_blk (g : Nat) (t : TypeId) (cs : Array Value) : ∀ a b : World, Blk a g t cs → Ext a b → Blk b g t cs := fun _ _ h k => k.blk h
end
theorem keepF {F : World → Prop} {a b : World} (hb : Ext a b) (h : F a) (hF : ∀ a b, F a → Ext a b → F b) : F b := hF a b h hb
theorem st_cell (p : Addr) (v : Value) : ∀ a b : World, a.cell? p = some v → Ext a b → b.cell? p = some v := fun _ _ h k => k.cellk h
theorem st_and {F G : World → Prop} (hF : ∀ a b, F a → Ext a b → F b) (hG : ∀ a b, G a → Ext a b → G b) : ∀ a b, F a ∧ G a → Ext a b → F b ∧ G b := fun a b h k => ⟨hF a b h.1 k, hG a b h.2 k⟩
theorem sw_cell (w : World) (o1 o2 : Obj) (p : Addr) (v : Value) (hp : p.block < w.heap.size) : (w.alloc o1).cell? p = some v → (w.alloc o2).cell? p = some v := fun h => by
  rw [World.cell?_alloc_lt w o2 p hp]
  rwa [World.cell?_alloc_lt w o1 p hp] at h
theorem sf_cell {w : World} {p q : Addr} {u v : Value} (hne : ¬ q.block = p.block) (h : w.cell? q = some v) : (w.setCell p u).cell? q = some v := by
  rw [World.cell?_setCell_other w p q u (fun e => hne (by rw [e]))]; exact h
theorem sw_and {A B A' B' : Prop} (h : A → A') (k : B → B') : A ∧ B → A' ∧ B' := fun x => ⟨h x.1, k x.2⟩
theorem ret_int {k : IntKind} {a b : Int} (h : a = b) : Ending.returned (.int k a) = .returned (.int k b) := by rw [h]
theorem ret_bool {a b : Bool} (h : a = b) : Ending.returned (.bool a) = .returned (.bool b) := by rw [h]

theorem box1 (w : World) (c1 : Array Value) (t1 : TypeId) : ∃ W, W = w.alloc (.cells c1 t1) ∧ Ext w W ∧ (∀ (i : Nat) (v : Value), c1[i]? = some v → W.cell? ⟨w.heap.size, i, none⟩ = some v) :=
  ⟨_, rfl, (Ext.refl w).alloc _, fun i _ h => (Ext.refl _).box i h⟩
theorem box2 (w : World) (c1 c2 : Array Value) (t1 t2 : TypeId) : ∃ W, W = (w.alloc (.cells c1 t1)).alloc (.cells c2 t2) ∧ Ext w W ∧ (∀ (i : Nat) (v : Value), c1[i]? = some v → W.cell? ⟨w.heap.size, i, none⟩ = some v) ∧ (∀ (i : Nat) (v : Value), c2[i]? = some v → W.cell? ⟨w.heap.size + 1, i, none⟩ = some v) := by
  refine ⟨_, rfl, ((Ext.refl w).alloc _).alloc _, fun i _ h => ((Ext.refl _).alloc _).box i h, fun i _ h => ?_⟩
  have := (Ext.refl ((w.alloc (.cells c1 t1)).alloc (.cells c2 t2))).box i h
  simpa using this
theorem box3 (w : World) (c1 c2 c3 : Array Value) (t1 t2 t3 : TypeId) : ∃ W, W = ((w.alloc (.cells c1 t1)).alloc (.cells c2 t2)).alloc (.cells c3 t3) ∧ Ext w W ∧ (∀ (i : Nat) (v : Value), c1[i]? = some v → W.cell? ⟨w.heap.size, i, none⟩ = some v) ∧ (∀ (i : Nat) (v : Value), c2[i]? = some v → W.cell? ⟨w.heap.size + 1, i, none⟩ = some v) ∧ (∀ (i : Nat) (v : Value), c3[i]? = some v → W.cell? ⟨w.heap.size + 1 + 1, i, none⟩ = some v) := by
  obtain ⟨W, hW, hE, h1, h2⟩ := box2 w c1 c2 t1 t2
  refine ⟨W.alloc (.cells c3 t3), by rw [hW], hE.alloc _, fun i _ h => ((Ext.refl W).alloc _).cellk (h1 i _ h), fun i _ h => ((Ext.refl W).alloc _).cellk (h2 i _ h), fun i _ h => ?_⟩
  have := (Ext.refl (W.alloc (.cells c3 t3))).box i h
  rw [hW] at this ⊢
  simpa using this
end Go.Proofs.YtmdjndhebgnjoaaDoor
