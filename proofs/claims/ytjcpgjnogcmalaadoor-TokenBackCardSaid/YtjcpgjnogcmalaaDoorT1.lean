/- Words that the other texts of this seat use: a world that extends another one, boxes of parameters, closing lemmas. (and what follows) -/
import Derived.Test.YtjcpgjnogcmalaaDoorChecked
import Derived.WalkKit
import Derived.WalkLawsBesides
import Derived.WalkSpells
import Derived.Outline
import Derived.Below
import Derived.Deep.RegionHeld3
import Derived.Deep.RegionWith
import Derived.Deep.QuietTactic
import Derived.Deep.DeepCutAuto
import Derived.KernelRfl
import Derived.BigQuiet
import Derived.Lib.Hide
import Derived.OneCell
import Derived.Test.YtjcpgjnogcmalaaDoorRows
import Derived.OpenShut
import Derived.Deep.Slices
import Derived.OrdersHeld
import Derived.Laws.OwnMore
import Derived.Laws.Slices
/-! Words that the other texts of this seat use: a world that extends another one, boxes of parameters, closing lemmas. -/
namespace Go.Proofs.YtjcpgjnogcmalaaDoor
set_option linter.unusedVariables false
set_option linter.unusedSimpArgs false
open Go.RowKit

/-- w' is w with new blocks: what was there is there. -/
def Ext (w w' : World) : Prop := Below w.heap.size w w'
theorem Ext.refl (w : World) : Ext w w := Below.refl _ _
theorem Ext.trans {a b c : World} (h : Ext a b) (k : Ext b c) : Ext a c := Below.trans h (Below.mono k h.size)
theorem Ext.alloc {a b : World} (h : Ext a b) (o : Obj) : Ext a (b.alloc o) := Below.alloc h h.size o
theorem Ext.drew {a b : World} (h : Ext a b) : Ext a b.drew := Below.drew h
theorem Ext.drewN {a b : World} (h : Ext a b) (n : Nat) : Ext a (b.drewN n) := ⟨h.os, h.tape, h.output, h.size, h.block⟩
theorem Ext.le {a b : World} (h : Ext a b) : a.heap.size ≤ b.heap.size := h.size
theorem Ext.cellk {a b : World} (h : Ext a b) {p : Addr} {v : Value} (hc : a.cell? p = some v) : b.cell? p = some v :=
  (Below.cell h (World.block_lt_of_cell? a p hc)).trans hc
theorem Ext.blk {a b : World} (h : Ext a b) {k : Nat} {o : Obj} (hc : a.heap[k]? = some o) : b.heap[k]? = some o :=
  (Below.block h k (Array.getElem?_eq_some_iff.1 hc).1).trans hc
theorem Ext.box {w wr : World} {cs : Array Value} {t : TypeId} (h : Ext (w.alloc (.cells cs t)) wr) (i : Nat) {v : Value} (hv : cs[i]? = some v) : wr.cell? ⟨w.heap.size, i, none⟩ = some v := by
  have h1 := Below.cell h (p := ⟨w.heap.size, i, none⟩) (by simp)
  rw [h1, World.cell?_alloc_new]; exact hv
theorem Ext.set {a b : World} (h : Ext a b) {p : Addr} (hp : a.heap.size ≤ p.block) (v : Value) : Ext a (b.setCell p v) := Below.setCell h hp v
theorem Ext.lt {a b : World} (h : Ext a b) {k : Nat} (hk : k < a.heap.size) : k < b.heap.size := Nat.lt_of_lt_of_le hk h.size
/-- Block g is just these cells, none of them frozen. -/
def Blk (w : World) (g : Nat) (t : TypeId) (cs : Array Value) : Prop := w.heap[g]? = some (.cells cs t (0, 0))
section
variable {w w' : World} {g : Nat} {t : TypeId} {cs : Array Value}
theorem Blk.lt (h : Blk w g t cs) : g < w.heap.size := (Array.getElem?_eq_some_iff.1 h).1
theorem Blk.cell (h : Blk w g t cs) (i : Nat) {v : Value} (hv : cs[i]? = some v) : w.cell? ⟨g, i, none⟩ = some v := (cell_of_row w g i cs t (0, 0) h).trans hv
theorem Blk.frozen (h : Blk w g t cs) (i : Nat) : w.frozen? ⟨g, i, none⟩ = false := by
  unfold Blk at h
  simp [World.frozen?, h]
theorem Blk.new (w : World) (t : TypeId) (cs : Array Value) : Blk (w.alloc (.cells cs t)) w.heap.size t cs := heap_alloc_new w _
theorem Blk.drew (h : Blk w g t cs) : Blk w.drew g t cs := h
theorem Blk.drewN (h : Blk w g t cs) (n : Nat) : Blk (w.drewN n) g t cs := h
theorem Blk.alloc (h : Blk w g t cs) (o : Obj) : Blk (w.alloc o) g t cs := (Below.heap_alloc w o g h.lt).trans h
theorem Blk.set_ (h : Blk w g t cs) (i : Nat) (u : Value) : Blk (w.setCell ⟨g, i, none⟩ u) g t (cs.setIfInBounds i u) := by
  unfold Blk at h ⊢
  simp [World.setCell, Array.getElem?_modify, h]
theorem Blk.far (h : Blk w g t cs) {p : Addr} (hp : g ≠ p.block) (u : Value) : Blk (w.setCell p u) g t cs := (Below.heap_setCell w p u g hp).trans h
theorem Blk.ext (h : Blk w g t cs) (hb : Ext w w') : Blk w' g t cs := hb.blk h
theorem Blk.ne_ {g' : Nat} {t' : TypeId} {cs' : Array Value} (h : Blk w g t cs) (h' : Blk w g' t' cs') (hne : t ≠ t') : g ≠ g' := by
  rintro rfl
  unfold Blk at h h'
  rw [h] at h'
  injection h' with h'
  injection h' with _ ht
  exact hne ht
theorem st_blk (g : Nat) (t : TypeId) (cs : Array Value) : ∀ a b : World, Blk a g t cs → Ext a b → Blk b g t cs := fun _ _ h k => k.blk h
end
theorem keepF {F : World → Prop} {a b : World} (hb : Ext a b) (h : F a) (hF : ∀ a b, F a → Ext a b → F b) : F b := hF a b h hb
theorem st_cell (p : Addr) (v : Value) : ∀ a b : World, a.cell? p = some v → Ext a b → b.cell? p = some v := fun _ _ h k => k.cellk h
theorem st_and {F G : World → Prop} (hF : ∀ a b, F a → Ext a b → F b) (hG : ∀ a b, G a → Ext a b → G b) : ∀ a b, F a ∧ G a → Ext a b → F b ∧ G b := fun a b h k => ⟨hF a b h.1 k, hG a b h.2 k⟩
theorem sw_cell (w : World) (o1 o2 : Obj) (p : Addr) (v : Value) (hp : p.block < w.heap.size) : (w.alloc o1).cell? p = some v → (w.alloc o2).cell? p = some v := fun h => by
  rw [World.cell?_alloc_lt w o2 p hp]
  rwa [World.cell?_alloc_lt w o1 p hp] at h
theorem sf_cell {w : World} {p q : Addr} {u v : Value} (hne : ¬ q.block = p.block) (h : w.cell? q = some v) : (w.setCell p u).cell? q = some v := by
  rw [World.cell?_setCell_other w p q u (fun e => hne (by rw [e]))]; exact h
theorem sw_and {A B A' B' : Prop} (h : A → A') (k : B → B') : A ∧ B → A' ∧ B' := fun x => ⟨h x.1, k x.2⟩
theorem ret_int {k : IntKind} {a b : Int} (h : a = b) : Ending.returned (.int k a) = .returned (.int k b) := by rw [h]
theorem ret_bool {a b : Bool} (h : a = b) : Ending.returned (.bool a) = .returned (.bool b) := by rw [h]

theorem box1 (w : World) (c1 : Array Value) (t1 : TypeId) : ∃ W, W = w.alloc (.cells c1 t1) ∧ Ext w W ∧ (∀ (i : Nat) (v : Value), c1[i]? = some v → W.cell? ⟨w.heap.size, i, none⟩ = some v) :=
  ⟨_, rfl, (Ext.refl w).alloc _, fun i _ h => (Ext.refl _).box i h⟩
theorem box2 (w : World) (c1 c2 : Array Value) (t1 t2 : TypeId) : ∃ W, W = (w.alloc (.cells c1 t1)).alloc (.cells c2 t2) ∧ Ext w W ∧ (∀ (i : Nat) (v : Value), c1[i]? = some v → W.cell? ⟨w.heap.size, i, none⟩ = some v) ∧ (∀ (i : Nat) (v : Value), c2[i]? = some v → W.cell? ⟨w.heap.size + 1, i, none⟩ = some v) := by
  refine ⟨_, rfl, ((Ext.refl w).alloc _).alloc _, fun i _ h => ((Ext.refl _).alloc _).box i h, fun i _ h => ?_⟩
  have := (Ext.refl ((w.alloc (.cells c1 t1)).alloc (.cells c2 t2))).box i h
  simpa using this
theorem box3 (w : World) (c1 c2 c3 : Array Value) (t1 t2 t3 : TypeId) : ∃ W, W = ((w.alloc (.cells c1 t1)).alloc (.cells c2 t2)).alloc (.cells c3 t3) ∧ Ext w W ∧ (∀ (i : Nat) (v : Value), c1[i]? = some v → W.cell? ⟨w.heap.size, i, none⟩ = some v) ∧ (∀ (i : Nat) (v : Value), c2[i]? = some v → W.cell? ⟨w.heap.size + 1, i, none⟩ = some v) ∧ (∀ (i : Nat) (v : Value), c3[i]? = some v → W.cell? ⟨w.heap.size + 1 + 1, i, none⟩ = some v) := by
  obtain ⟨W, hW, hE, h1, h2⟩ := box2 w c1 c2 t1 t2
  refine ⟨W.alloc (.cells c3 t3), by rw [hW], hE.alloc _, fun i _ h => ((Ext.refl W).alloc _).cellk (h1 i _ h), fun i _ h => ((Ext.refl W).alloc _).cellk (h2 i _ h), fun i _ h => ?_⟩
  have := (Ext.refl (W.alloc (.cells c3 t3))).box i h
  rw [hW] at this ⊢
  simpa using this
end Go.Proofs.YtjcpgjnogcmalaaDoor

/-! How values read as data: a descriptor for each shape (numbers, bools, strings, slices, structs, arrays), kept while the world grows; and how what a law is given is opened to it. -/
namespace Go.Proofs.YtjcpgjnogcmalaaDoor
set_option linter.unusedVariables false
set_option linter.unusedSimpArgs false
open Go.RowKit

/-- What is read in the one is read in the other. -/
def Cle (w w' : World) : Prop := ∀ p v, w.cell? p = some v → w'.cell? p = some v
theorem Ext.cle {w w' : World} (h : Ext w w') : Cle w w' := fun _ _ hc => h.cellk hc
theorem Cle.trans {a b c : World} (h : Cle a b) (k : Cle b c) : Cle a c := fun p v hc => k p v (h p v hc)
/-- A shape: how many cells, when cells read ars x, and what is known of x by its size (ok B: no length beyond B). -/
structure Rd (α : Type) where
  sz : Nat
  K : World → α → List Value → Prop
  ok : Nat → α → Prop
  len : ∀ {w x cs}, K w x cs → cs.length = sz
  mono : ∀ {w w' x cs}, Cle w w' → K w x cs → K w' x cs

theorem add_add' (a : Addr) (i j : Nat) : (a.add i).add j = a.add (i + j) := by
  unfold Addr.add
  by_cases hi : i = 0 <;> by_cases hj : j = 0 <;> simp [hi, hj, Nat.add_assoc]

namespace Rd
def int (k : IntKind) : Rd Int := ⟨1, fun _ x cs => cs = [.int k x], fun _ x => (Lit.int k x).wf = true, fun h => by rw [h]; rfl, fun _ h => h⟩
def u8 : Rd UInt8 := ⟨1, fun _ x cs => cs = [.int .u8 x.toNat], fun _ _ => True, fun h => by rw [h]; rfl, fun _ h => h⟩
def bool : Rd Bool := ⟨1, fun _ x cs => cs = [.bool x], fun _ _ => True, fun h => by rw [h]; rfl, fun _ h => h⟩
def str : Rd ByteArray := ⟨1, fun _ x cs => cs = [.string x], fun B x => x.size ≤ B, fun h => by rw [h]; rfl, fun _ h => h⟩

/-- The cells of a slice from A on read ars xs. -/
def Sl {α : Type} (d : Rd α) (w : World) (A : Option Addr) (n : Nat) (xs : List α) : Prop :=
  xs.length = n ∧ (0 < n → ∃ b o, A = some ⟨b, o, none⟩ ∧ ∀ i (h : i < xs.length), ∃ cs, d.K w xs[i] cs ∧ ∀ j u, cs[j]? = some u → w.cell? ⟨b, o + i * d.sz + j, none⟩ = some u)
theorem ext {α : Type} (d : Rd α) {w w' : World} {x : α} {cs : List Value} (hE : Ext w w') (h : d.K w x cs) : d.K w' x cs := d.mono hE.cle h
theorem Sl.mono {α : Type} {d : Rd α} {w w' : World} {A : Option Addr} {n : Nat} {xs : List α} (h : d.Sl w A n xs) (hE : Cle w w') : d.Sl w' A n xs :=
  ⟨h.1, fun hn => by
    obtain ⟨b, o, e, hc⟩ := h.2 hn
    refine ⟨b, o, e, fun i hi => ?_⟩
    obtain ⟨cs, hk, hcell⟩ := hc i hi
    exact ⟨cs, d.mono hE hk, fun j u hu => hE _ _ (hcell j u hu)⟩⟩
theorem Sl.ext {α : Type} {d : Rd α} {w w' : World} {A : Option Addr} {n : Nat} {xs : List α} (h : d.Sl w A n xs) (hE : Ext w w') : d.Sl w' A n xs := h.mono hE.cle
theorem Sl.none {α : Type} (d : Rd α) (w : World) (A : Option Addr) : d.Sl w A 0 [] := ⟨rfl, fun h => absurd h (Nat.lt_irrefl 0)⟩
/-- Element i. -/
theorem Sl.get {α : Type} {d : Rd α} {w : World} {A : Option Addr} {n : Nat} {xs : List α} (h : d.Sl w A n xs) (i : Nat) (hi : i < n) :
    ∃ b o cs, A = some ⟨b, o, Option.none⟩ ∧ d.K w (xs[i]'(by rw [h.1]; exact hi)) cs ∧ ∀ j u, cs[j]? = some u → w.cell? ⟨b, o + i * d.sz + j, Option.none⟩ = some u := by
  obtain ⟨b, o, e, hc⟩ := h.2 (by omega)
  obtain ⟨cs, hk, hcell⟩ := hc i (by rw [h.1]; exact hi)
  exact ⟨b, o, cs, e, hk, hcell⟩

def slice {α : Type} (d : Rd α) : Rd (List α) where
  sz := 1
  K := fun w xs cs => ∃ A c, cs = [.slice A xs.length c] ∧ xs.length ≤ c ∧ d.Sl w A xs.length xs
  ok := fun B xs => xs.length ≤ B ∧ ∀ x ∈ xs, d.ok B x
  len := by rintro w x cs ⟨A, c, rfl, _⟩; rfl
  mono := by rintro w w' x cs hE ⟨A, c, rfl, hl, h⟩; exact ⟨A, c, rfl, hl, h.mono hE⟩
def pair {α β : Type} (a : Rd α) (b : Rd β) : Rd (α × β) where
  sz := a.sz + b.sz
  K := fun w x cs => ∃ c0 c1, cs = c0 ++ c1 ∧ a.K w x.1 c0 ∧ b.K w x.2 c1
  ok := fun B x => a.ok B x.1 ∧ b.ok B x.2
  len := by rintro w x cs ⟨c0, c1, rfl, h0, h1⟩; rw [List.length_append, a.len h0, b.len h1]
  mono := by rintro w w' x cs hE ⟨c0, c1, rfl, h0, h1⟩; exact ⟨c0, c1, rfl, a.mono hE h0, b.mono hE h1⟩
/-- A structure by its fields. -/
def iso {α β : Type} (d : Rd α) (f : β → α) : Rd β where
  sz := d.sz
  K := fun w x cs => d.K w (f x) cs
  ok := fun B x => d.ok B (f x)
  len := d.len
  mono := d.mono
/-- n elements in line. -/
def arr {α : Type} (n : Nat) (d : Rd α) : Rd (List α) where
  sz := n * d.sz
  K := fun w xs cs => xs.length = n ∧ cs.length = n * d.sz ∧ ∀ i (h : i < xs.length), d.K w xs[i] ((cs.drop (i * d.sz)).take d.sz)
  ok := fun B xs => ∀ x ∈ xs, d.ok B x
  len := fun h => h.2.1
  mono := fun hE h => ⟨h.1, h.2.1, fun i hi => d.mono hE (h.2.2 i hi)⟩
end Rd

/-! ### opening what a law is given -/
section
variable {P : Program}
/-- Of no more than so much: by the bulk, or each string and slice by its weight. -/
def Lim {H : Type} (P : Program) (t : TypeId) (x : DataW H) (B : Nat) : Prop := Rows.uptoBulk x ≤ B ∨ ∀ n ∈ x.weights P t, n ≤ B
def LimAll {H : Type} (P : Program) (e : TypeId) (l : List (DataW H)) (B : Nat) : Prop := Rows.uptoBulkAll l ≤ B ∨ ∀ n ∈ DataW.weightsAll P e l, n ≤ B
def LimEach {H : Type} (P : Program) (ts : List TypeId) (l : List (DataW H)) (B : Nat) : Prop := Rows.uptoBulkAll l ≤ B ∨ ∀ n ∈ DataW.weightsEach P ts l, n ≤ B
theorem bulk_mem {H : Type} : ∀ (l : List (DataW H)) (x : DataW H), x ∈ l → Rows.uptoBulk x ≤ Rows.uptoBulkAll l
  | [], _, h => by simp at h
  | d :: r, x, h => by
    rw [Rows.uptoBulkAll]
    rcases List.mem_cons.1 h with rfl | h
    · omega
    · have := bulk_mem r x h; omega
theorem bulk_pos {H : Type} (x : DataW H) : 1 ≤ Rows.uptoBulk x := by
  cases x <;> try (simp [Rows.uptoBulk]; done)
  next l => cases l <;> simp [Rows.uptoBulk]
theorem bulk_len {H : Type} : ∀ (l : List (DataW H)), l.length ≤ Rows.uptoBulkAll l
  | [] => by simp
  | d :: r => by
    rw [Rows.uptoBulkAll, List.length_cons]
    have := bulk_len r
    have := bulk_pos d
    omega
theorem weights_mem {H : Type} {P : Program} {e : TypeId} : ∀ (l : List (DataW H)) (x : DataW H), x ∈ l → ∀ n ∈ x.weights P e, n ∈ DataW.weightsAll P e l
  | [], _, h, _, _ => by cases h
  | d :: r, x, h, n, hn => by
    rw [DataW.weightsAll]
    rcases List.mem_cons.1 h with rfl | h
    · exact List.mem_append_left _ hn
    · exact List.mem_append_right _ (weights_mem r x h n hn)
theorem LimAll.mem {H : Type} {P : Program} {e : TypeId} {l : List (DataW H)} {B : Nat} (h : LimAll P e l B) {x : DataW H} (hx : x ∈ l) : Lim P e x B :=
  h.imp (fun h => Nat.le_trans (bulk_mem l x hx) h) fun h n hn => h n (weights_mem l x hx n hn)
theorem LimEach.head {H : Type} {P : Program} {t : TypeId} {ts : List TypeId} {x : DataW H} {l : List (DataW H)} {B : Nat} (h : LimEach P (t :: ts) (x :: l) B) : Lim P t x B :=
  h.imp (fun h => by rw [Rows.uptoBulkAll] at h; omega) fun h n hn => h n (by rw [DataW.weightsEach]; exact List.mem_append_left _ hn)
theorem LimEach.tail {H : Type} {P : Program} {t : TypeId} {ts : List TypeId} {x : DataW H} {l : List (DataW H)} {B : Nat} (h : LimEach P (t :: ts) (x :: l) B) : LimEach P ts l B :=
  h.imp (fun h => by rw [Rows.uptoBulkAll] at h; omega) fun h n hn => h n (by rw [DataW.weightsEach]; exact List.mem_append_right _ hn)
theorem Lim.slice {H : Type} {P : Program} {t e : TypeId} (ht : P.underlying t = some (.slice e)) (hb : 0 < P.bytesOf e) {elems spare : List (DataW H)} {B : Nat} (h : Lim P t (.slice elems spare) B) : elems.length ≤ B ∧ LimAll P e elems B := by
  rcases h with h | h
  · simp only [Rows.uptoBulk] at h
    have := bulk_len elems
    exact ⟨by omega, .inl (by omega)⟩
  · unfold DataW.weights at h
    simp only [ht] at h
    refine ⟨?_, .inr fun n hn => h n (List.mem_cons_of_mem _ (List.mem_append_left _ hn))⟩
    have h1 := h _ (List.mem_cons_self ..)
    refine Nat.le_trans ?_ h1
    refine Nat.le_trans (Nat.le_add_right _ spare.length) ?_
    exact Nat.le_mul_of_pos_right _ hb
theorem Lim.struct {H : Type} {P : Program} {t : TypeId} {fs : Array Field} (ht : P.underlying t = some (.struct fs)) {parts : List (DataW H)} {B : Nat} (h : Lim P t (.agg parts) B) : LimEach P (fs.toList.map (·.type)) parts B := by
  rcases h with h | h
  · simp only [Rows.uptoBulk] at h
    exact .inl (by omega)
  · unfold DataW.weights at h
    simp only [ht] at h
    exact .inr h
theorem Lim.arr {H : Type} {P : Program} {t e : TypeId} {n : Nat} (ht : P.underlying t = some (.array n e)) {parts : List (DataW H)} {B : Nat} (h : Lim P t (.agg parts) B) : LimAll P e parts B := by
  rcases h with h | h
  · simp only [Rows.uptoBulk] at h
    exact .inl (by omega)
  · unfold DataW.weights at h
    simp only [ht] at h
    exact .inr h
/-- A type's values read by the descriptor. -/
def Opens {α : Type} (P : Program) (t : TypeId) (d : Rd α) : Prop :=
  P.cellsOf t = d.sz ∧ ∀ (H : Type) (enc : TypeId × Value → H) (w : World) (base : Nat) (spare : Nat → Bool) (held : Bool) (fuel : Nat) (cs : List Value) (x : DataW H × List MemPlace),
    DataW.trod enc P w base spare held fuel t cs = some x → ∃ y, d.K w y cs ∧ d.ok maxLen y ∧ ∀ B, Lim P t x.1 B → d.ok B y
theorem opens_int {t : TypeId} {k : IntKind} (ht : P.underlying t = some (.int k)) (hc : P.cellsOf t = 1) : Opens P t (Rd.int k) :=
  ⟨hc, fun H enc w base spare held fuel cs x h => by
    obtain ⟨n, rfl, rfl, hw⟩ := DataW.trod_int ht h
    exact ⟨n, rfl, hw, fun _ _ => hw⟩⟩
theorem opens_u8 {t : TypeId} (ht : P.underlying t = some (.int .u8)) (hc : P.cellsOf t = 1) : Opens P t Rd.u8 :=
  ⟨hc, fun H enc w base spare held fuel cs x h => by
    obtain ⟨n, rfl, rfl, hw⟩ := DataW.trod_int ht h
    have hb : 0 ≤ n ∧ n ≤ 255 := by simpa [Lit.wf, IntKind.min, IntKind.max, IntKind.signed, IntKind.bits] using hw
    refine ⟨UInt8.ofNat n.toNat, ?_, trivial, fun _ _ => trivial⟩
    show [Value.int .u8 n] = [Value.int .u8 ((UInt8.ofNat n.toNat).toNat : Int)]
    rw [UInt8.toNat_ofNat', Nat.mod_eq_of_lt (by omega), Int.toNat_of_nonneg hb.1]⟩
theorem opens_bool {t : TypeId} (ht : P.underlying t = some .bool) (hc : P.cellsOf t = 1) : Opens P t Rd.bool :=
  ⟨hc, fun H enc w base spare held fuel cs x h => by
    obtain ⟨n, rfl, rfl⟩ := DataW.trod_bool ht h
    exact ⟨n, rfl, trivial, fun _ _ => trivial⟩⟩
theorem opens_str {t : TypeId} (ht : P.underlying t = some .string) (hc : P.cellsOf t = 1) : Opens P t Rd.str :=
  ⟨hc, fun H enc w base spare held fuel cs x h => by
    obtain ⟨s, rfl, rfl, hs⟩ := DataW.trod_string ht h
    refine ⟨s, rfl, hs, fun B hB => ?_⟩
    have : s.size = s.data.size := rfl
    show s.size ≤ B
    rcases hB with hB | hB
    · simp only [Rows.uptoBulk, Array.length_toList] at hB
      omega
    · have := hB s.data.toList.length (by simp [DataW.weights])
      rw [Array.length_toList] at this
      omega⟩
theorem cells_get {w : World} {base n : Nat} {a : Addr} {cs : List Value} (h : w.cells? base a n = some cs) : cs.length = n ∧ ∀ j u, cs[j]? = some u → w.cell? (a.add j) = some u := by
  unfold World.cells? at h
  split at h
  · have hl := mapM_some_length h
    refine ⟨by simpa using hl, fun j u hu => ?_⟩
    have hj : j < n := by
      have := (List.getElem?_eq_some_iff.1 hu).1
      rw [hl] at this
      simpa using this
    have := mapM_some_get h j j (by simp [hj])
    rw [this, hu]
  · cases h
theorem opens_slice {α : Type} {t e : TypeId} {d : Rd α} (ht : P.underlying t = some (.slice e)) (hc : P.cellsOf t = 1) (he : Opens P e d) (hs : 0 < d.sz) (hbe : 0 < P.bytesOf e) : Opens P t (Rd.slice d) :=
  ⟨hc, fun H enc w base spare held fuel cs x h => by
    rcases DataW.trod_slice ht h with ⟨rfl, rfl⟩ | ⟨a, len, cap, elems, rest, n, rfl, rfl, rfl, hb, hlc, hcap, hel, hget, _, _⟩
    · exact ⟨[], ⟨none, 0, rfl, Nat.le_refl _, Rd.Sl.none _ _ _⟩, ⟨by simp, by simp⟩, fun _ _ => ⟨by simp, by simp⟩⟩
    · have hex : ∀ i, i < len → ∃ y, (∃ cs, d.K w y cs ∧ ∀ j u, cs[j]? = some u → w.cell? (a.add (i * d.sz + j)) = some u) ∧ d.ok maxLen y ∧ ∀ B, LimAll P e (elems.map (·.1)) B → d.ok B y := by
        intro i hi
        have hg := hget i hi
        rw [List.getElem?_eq_getElem (by omega)] at hg
        obtain ⟨cs, hcs, htr⟩ := Option.bind_eq_some_iff.1 hg
        obtain ⟨y, hk, hm, hB⟩ := he.2 H enc w base spare held n cs _ htr
        rw [he.1] at hcs
        refine ⟨y, ⟨cs, hk, fun j u hu => ?_⟩, hm, fun B hle => hB B (LimAll.mem hle (List.mem_map_of_mem (List.getElem_mem _)))⟩
        rw [← add_add']
        exact (cells_get hcs).2 j u hu
      classical
      have hxs : ∃ xs : List α, xs.length = len ∧ ∀ i (h : i < xs.length) (h' : i < len), xs[i] = (hex i h').choose :=
        ⟨(List.finRange len).map fun i => (hex i.1 i.2).choose, by simp, fun i h h' => by simp⟩
      obtain ⟨xs, hl, hx⟩ := hxs
      refine ⟨xs, ⟨some a, cap, by rw [hl], by omega, ⟨rfl, fun h0 => ?_⟩⟩, ⟨by omega, fun y hy => ?_⟩, fun B hB => ⟨?_, fun y hy => ?_⟩⟩
      · have hsp : a.spot = none := by
          obtain ⟨cs, hk, hc⟩ := (hex 0 (by omega)).choose_spec.1
          have hl0 := d.len hk
          have h1 := hc 0 _ (List.getElem?_eq_getElem (by omega))
          rw [Nat.zero_mul] at h1
          exact World.cell?_spot h1
        obtain ⟨b, o, s⟩ := a
        obtain rfl : s = none := hsp
        refine ⟨b, o, rfl, fun i hi => ?_⟩
        rw [hx i hi (by omega)]
        obtain ⟨cs, hk, hc⟩ := (hex i (by omega)).choose_spec.1
        refine ⟨cs, hk, fun j u hu => ?_⟩
        have h1 := hc j u hu
        have h2 : (⟨b, o, none⟩ : Addr).add (i * d.sz + j) = ⟨b, o + i * d.sz + j, none⟩ := by
          unfold Addr.add
          split
          · simp [*]
          · simp; omega
        rwa [h2] at h1
      · obtain ⟨i, hi, rfl⟩ := List.getElem_of_mem hy
        rw [hx i hi (by omega)]
        exact (hex i (by omega)).choose_spec.2.1
      · have h1 := (Lim.slice ht hbe hB).1
        rw [List.length_map] at h1
        omega
      · obtain ⟨i, hi, rfl⟩ := List.getElem_of_mem hy
        rw [hx i hi (by omega)]
        exact (hex i (by omega)).choose_spec.2.2 B (Lim.slice ht hbe hB).2⟩
/-- Fields from one on. -/
def OpensFs {α : Type} (P : Program) (fs : List Field) (off : Nat) (d : Rd α) : Prop :=
  ∀ (H : Type) (enc : TypeId × Value → H) (w : World) (base : Nat) (spare : Nat → Bool) (held : Bool) (n : Nat) (cs : List Value) (xs : List (DataW H × List MemPlace)),
    (∀ (i : Nat) (f : Field), fs[i]? = some f → DataW.trod enc P w base spare held n f.type ((cs.drop f.offset).take (P.cellsOf f.type)) = xs[i]?) → xs.length = fs.length → cs.length = off + d.sz →
    ∃ y, d.K w y (cs.drop off) ∧ d.ok maxLen y ∧ ∀ B, LimEach P (fs.map (·.type)) (xs.map (·.1)) B → d.ok B y
theorem opensFs_one {α : Type} {f : Field} {off : Nat} {d : Rd α} (ho : f.offset = off) (h : Opens P f.type d) : OpensFs P [f] off d := by
  intro H enc w base spare held n cs xs hx hl hcs
  have h0 := hx 0 f rfl
  rw [List.getElem?_eq_getElem (by simp at hl; omega), ho, h.1, List.take_of_length_le (by rw [List.length_drop]; omega)] at h0
  obtain ⟨y, hk, hm, hB⟩ := h.2 H enc w base spare held n _ _ h0
  refine ⟨y, hk, hm, fun B hle => hB B ?_⟩
  cases xs with
  | nil => simp at hl
  | cons x0 xs => exact LimEach.head hle
theorem opensFs_cons {α β : Type} {f : Field} {fs : List Field} {off : Nat} {d : Rd α} {d' : Rd β} (ho : f.offset = off) (h : Opens P f.type d) (hr : OpensFs P fs (off + d.sz) d') : OpensFs P (f :: fs) off (d.pair d') := by
  intro H enc w base spare held n cs xs hx hl hcs
  have h0 := hx 0 f rfl
  cases xs with
  | nil => simp at hl
  | cons x0 xs =>
    have hcs' : cs.length = off + (d.sz + d'.sz) := hcs
    rw [ho, h.1] at h0
    obtain ⟨y, hk, hm, hB⟩ := h.2 H enc w base spare held n _ _ h0
    obtain ⟨z, hk', hm', hB'⟩ := hr H enc w base spare held n cs xs (fun i g hg => by have := hx (i + 1) g (by simpa using hg); simpa using this) (by simpa using hl) (by omega)
    refine ⟨(y, z), ⟨_, _, ?_, hk, hk'⟩, ⟨hm, hm'⟩, fun B hle => ⟨hB B ?_, hB' B ?_⟩⟩
    · rw [← List.drop_drop, List.take_append_drop]
    · exact LimEach.head hle
    · exact LimEach.tail hle
theorem opens_struct {α β : Type} {t : TypeId} {fs : Array Field} {d : Rd α} (f : β → α) (g : α → β) (hfg : ∀ x, f (g x) = x) (ht : P.underlying t = some (.struct fs)) (hc : P.cellsOf t = d.sz) (h : OpensFs P fs.toList 0 d) : Opens P t (d.iso f) :=
  ⟨hc, fun H enc w base spare held fuel cs x hx => by
    obtain ⟨xs, n, rfl, rfl, hl, hxl, hf⟩ := DataW.trod_struct ht hx
    obtain ⟨y, hk, hm, hB⟩ := h H enc w base spare held n cs xs (fun i f' hf' => hf i f' (by rw [← Array.getElem?_toList]; exact hf')) (by rw [hxl, Array.length_toList]) (by rw [hl, hc, Nat.zero_add])
    rw [List.drop_zero] at hk
    refine ⟨g y, by show d.K w (f (g y)) cs; rw [hfg]; exact hk, by show d.ok _ (f (g y)); rw [hfg]; exact hm, fun B hle => ?_⟩
    show d.ok _ (f (g y))
    rw [hfg]
    exact hB B (by have := Lim.struct ht hle; simpa using this)⟩
theorem opens_arr {α : Type} {t e : TypeId} {n : Nat} {d : Rd α} (ht : P.underlying t = some (.array n e)) (hc : P.cellsOf t = n * d.sz) (h : Opens P e d) : Opens P t (Rd.arr n d) :=
  ⟨hc, fun H enc w base spare held fuel cs x hx => by
    obtain ⟨xs, m, rfl, rfl, hl, hxl, hf⟩ := DataW.trod_array ht hx
    have hex : ∀ i, i < n → ∃ y, d.K w y ((cs.drop (i * d.sz)).take d.sz) ∧ d.ok maxLen y ∧ ∀ B, LimAll P e (xs.map (·.1)) B → d.ok B y := by
      intro i hi
      have hg := hf i hi
      rw [List.getElem?_eq_getElem (by omega), h.1] at hg
      obtain ⟨y, hk, hm, hB⟩ := h.2 H enc w base spare held m _ _ hg
      exact ⟨y, hk, hm, fun B hle => hB B (LimAll.mem hle (List.mem_map_of_mem (List.getElem_mem _)))⟩
    have hxs : ∃ ys : List α, ys.length = n ∧ ∀ i (h : i < ys.length) (h' : i < n), ys[i] = (hex i h').choose :=
      ⟨(List.finRange n).map fun i => (hex i.1 i.2).choose, by simp, fun i h h' => by simp⟩
    obtain ⟨ys, hyl, hy⟩ := hxs
    refine ⟨ys, ⟨hyl, by rw [hl, hc], fun i hi => ?_⟩, fun y hy' => ?_, fun B hB y hy' => ?_⟩
    · rw [hy i hi (by omega)]; exact (hex i (by omega)).choose_spec.1
    · obtain ⟨i, hi, rfl⟩ := List.getElem_of_mem hy'
      rw [hy i hi (by omega)]; exact (hex i (by omega)).choose_spec.2.1
    · obtain ⟨i, hi, rfl⟩ := List.getElem_of_mem hy'
      rw [hy i hi (by omega)]
      exact (hex i (by omega)).choose_spec.2.2 B (Lim.arr ht hB)⟩
end
end Go.Proofs.YtjcpgjnogcmalaaDoor

/-! Slices of the call's own: what append leaves, kept across calls, read by a descriptor. -/
namespace Go.Proofs.YtjcpgjnogcmalaaDoor
set_option linter.unusedVariables false
set_option linter.unusedSimpArgs false
open Go.RowKit
theorem own_ext {w w' : World} {base : Nat} {e : TypeId} {size : Nat} {v : Value} {n : Nat} {xs : List Value} (h : w.ownsRow base e size v n xs) (hE : Ext w w') : w'.ownsRow base e size v n xs := by
  obtain ⟨hl, h⟩ := h
  refine ⟨hl, h.imp id ?_⟩
  rintro ⟨g, cap, cur, h1, h2, h3, h4⟩
  exact ⟨g, cap, cur, h1, h2, hE.blk h3, h4⟩
theorem own_base {w : World} {base base' : Nat} {e : TypeId} {size : Nat} {v : Value} {n : Nat} {xs : List Value} (h : w.ownsRow base e size v n xs) (hb : base' ≤ base) : w.ownsRow base' e size v n xs := by
  obtain ⟨hl, h⟩ := h
  refine ⟨hl, h.imp id ?_⟩
  rintro ⟨g, cap, cur, h1, h2, h3⟩
  exact ⟨g, cap, cur, h1, Nat.le_trans hb h2, h3⟩
theorem grown_ext {w wr w' : World} {e : TypeId} {size : Nat} {v : Value} {n : Nat} {xs : List Value} (h : Ext w wr) (hown : wr.ownsRow w.heap.size e size v n xs) (hg : wr.grownBy w' v.ownBlock) : Ext w w' :=
  Below.grown h hg h.size fun k hk => (hown.lt k hk).1
theorem grown_ext2 {a wr w' : World} {base : Nat} {e : TypeId} {size : Nat} {v : Value} {n : Nat} {xs : List Value} (h : Ext a wr) (hown : wr.ownsRow base e size v n xs) (hg : wr.grownBy w' v.ownBlock) (hb : a.heap.size ≤ base) : Ext a w' :=
  Below.grown h hg h.size fun k hk => Nat.le_trans hb (hown.lt k hk).1
theorem own_ne {w : World} {b1 b2 : Nat} {e1 e2 : TypeId} {s1 s2 : Nat} {v1 v2 : Value} {n1 n2 : Nat} {x1 x2 : List Value} (h1 : w.ownsRow b1 e1 s1 v1 n1 x1) (h2 : w.ownsRow b2 e2 s2 v2 n2 x2) (hne : e1 ≠ e2) : v1.ownBlock = none ∨ v1.ownBlock ≠ v2.ownBlock := by
  obtain ⟨_, ⟨rfl, _⟩ | ⟨g, _, _, rfl, _, hc, _⟩⟩ := h1
  · exact .inl rfl
  · obtain ⟨_, ⟨rfl, _⟩ | ⟨g', _, _, rfl, _, hc', _⟩⟩ := h2
    · exact .inr (by simp [Value.ownBlock])
    · refine .inr fun e => ?_
      simp only [Value.ownBlock, Option.some.injEq] at e
      rw [e, hc'] at hc
      injection hc with hc
      injection hc with _ hc
      exact hne hc.symm
theorem new_cells (w : World) (t : TypeId) (cs : Array Value) (j : Nat) (u : Value) (h : cs.toList[j]? = some u) : (w.alloc (.cells cs t)).cell? ((⟨w.heap.size, 0, none⟩ : Addr).add j) = some u := by
  have e : (⟨w.heap.size, 0, none⟩ : Addr).add j = ⟨w.heap.size, j, none⟩ := by
    unfold Addr.add
    split <;> simp_all
  rw [e]
  exact (Blk.new w t cs).cell j (by simpa using h)
theorem flat_get {α : Type} {f : α → List Value} {sz : Nat} (hf : ∀ x, (f x).length = sz) : ∀ (l : List α) (i j : Nat) (hi : i < l.length), j < sz → (l.flatMap f)[i * sz + j]? = (f l[i])[j]?
  | [], i, j, hi, hj => by simp at hi
  | x :: l, 0, j, hi, hj => by
    rw [List.flatMap_cons, List.getElem?_append_left (by rw [hf]; omega)]
    simp
  | x :: l, i + 1, j, hi, hj => by
    rw [List.flatMap_cons, List.getElem?_append_right (by rw [hf, Nat.add_mul]; omega), hf, show (i + 1) * sz + j - sz = i * sz + j by rw [Nat.add_mul]; omega]
    rw [flat_get hf l i j (by simpa using hi) hj]
    simp
/-- A slice of the call's own, read. -/
theorem own_sl {α : Type} {d : Rd α} {f : α → List Value} (hf : ∀ x, (f x).length = d.sz) (hK : ∀ w x, d.K w x (f x)) {w : World} {base : Nat} {e : TypeId} {v : Value} {l : List α}
    (h : w.ownsRow base e d.sz v l.length (l.flatMap f)) : ∃ A c, v = .slice A l.length c ∧ l.length ≤ c ∧ d.Sl w A l.length l := by
  obtain ⟨hl, ⟨rfl, hn⟩ | ⟨g, cap, cur, rfl, hb, hc, hle, hm, hs, ht⟩⟩ := h
  · have hl0 : l = [] := List.eq_nil_of_length_eq_zero hn
    subst hl0
    exact ⟨none, 0, rfl, Nat.le_refl _, Rd.Sl.none d w none⟩
  · refine ⟨some ⟨g, 0, none⟩, cap, rfl, hle, rfl, fun _ => ⟨g, 0, rfl, fun i hi => ⟨f l[i], hK w _, fun j u hu => ?_⟩⟩⟩
    have hj : j < d.sz := by
      have := (List.getElem?_eq_some_iff.1 hu).1
      rw [hf] at this; exact this
    have hlt : i * d.sz + j < l.length * d.sz := by
      have := Nat.mul_le_mul_right d.sz (show i + 1 ≤ l.length by omega)
      rw [Nat.add_mul] at this; omega
    rw [← flat_get hf l i j hi hj, ← ht, List.getElem?_take_of_lt hlt] at hu
    rw [show 0 + i * d.sz + j = i * d.sz + j by omega]
    exact (cell_of_row w g (i * d.sz + j) cur e (0, 0) hc).trans (by simpa using hu)
end Go.Proofs.YtjcpgjnogcmalaaDoor

/-! A world of which just some blocks are looked at: what is read there may be written over without turning what lies elsewhere. -/
namespace Go.Proofs.YtjcpgjnogcmalaaDoor
set_option linter.unusedVariables false
set_option linter.unusedSimpArgs false
open Go.RowKit
def keepO : Option Obj → Obj
  | some (.cells cs t (0, 0)) => .cells cs t (0, 0)
  | _ => .cells #[] 0 (0, 0)
/-- w's blocks from lo on, below hi, that may be written. -/
def only (w : World) (lo hi : Nat) : World :=
  { heap := Array.ofFn (n := hi) fun i => if lo ≤ i.1 then keepO w.heap[i.1]? else .cells #[] 0 (0, 0), tape := fun _ _ => 0, drawn := 0, os := default, output := #[] }
section
variable {w w' : World} {lo hi : Nat}
theorem only_heap (b : Nat) : (only w lo hi).heap[b]? = if b < hi then some (if lo ≤ b then keepO w.heap[b]? else .cells #[] 0 (0, 0)) else none := by
  unfold only
  simp only [Array.getElem?_ofFn]
  by_cases h : b < hi <;> simp [h]
theorem only_cell {p : Addr} {v : Value} (h : (only w lo hi).cell? p = some v) : lo ≤ p.block ∧ p.block < hi ∧ w.cell? p = some v ∧ w.frozen? p = false ∧ ∃ cs t, w.heap[p.block]? = some (.cells cs t (0, 0)) := by
  unfold World.cell? at h
  rw [only_heap] at h
  by_cases h1 : p.block < hi
  · by_cases h2 : lo ≤ p.block
    · rw [if_pos h1, if_pos h2] at h
      cases hb : w.heap[p.block]? with
      | none => rw [hb] at h; simp [keepO] at h
      | some o =>
        rw [hb] at h
        cases o with
        | cells cs t fr =>
          by_cases hfr : fr = (0, 0)
          · subst hfr
            refine ⟨h2, h1, ?_, ?_, cs, t, rfl⟩
            · unfold World.cell?; rw [hb]; exact h
            · unfold World.frozen?; rw [hb]; simp
          · have e : keepO (some (.cells cs t fr)) = .cells #[] 0 (0, 0) := by
              unfold keepO
              split
              · rename_i hh
                injection hh with hh
                injection hh with _ _ hh
                exact absurd hh hfr
              · rfl
            rw [e] at h
            simp at h
        | _ => simp [keepO] at h
    · rw [if_pos h1, if_neg h2] at h
      simp at h
  · rw [if_neg h1] at h
    simp at h
theorem cell_only {b i : Nat} {cs : Array Value} {t : TypeId} {v : Value} (hb : w.heap[b]? = some (.cells cs t (0, 0))) (h1 : lo ≤ b) (h2 : b < hi) (hv : cs[i]? = some v) : (only w lo hi).cell? ⟨b, i, none⟩ = some v := by
  unfold World.cell?
  rw [only_heap, if_pos h2, if_pos h1, hb]
  simpa [keepO] using hv
theorem only_cle : Cle (only w lo hi) w := fun _ _ h => (only_cell h).2.2.1
theorem only_wide {lo' hi' : Nat} (h1 : lo' ≤ lo) (h2 : hi ≤ hi') : Cle (only w lo hi) (only w lo' hi') := fun p v h => by
  obtain ⟨a, b, _, _, cs, t, hh⟩ := only_cell h
  have hc := (only_cell h).2.2.1
  have hs : p.spot = none := by
    unfold World.cell? at hc
    rw [hh] at hc
    cases hp : p.spot with
    | none => rfl
    | some x => simp [hp] at hc
  obtain ⟨pb, po, ps⟩ := p
  obtain rfl : ps = none := hs
  refine cell_only (w := w) hh (Nat.le_trans h1 a) (Nat.lt_of_lt_of_le b h2) ?_
  unfold World.cell? at hc
  rw [hh] at hc
  simpa using hc
theorem only_keep (h : ∀ b, lo ≤ b → b < hi → w'.heap[b]? = w.heap[b]?) : only w' lo hi = only w lo hi := by
  unfold only
  congr 1
  apply Array.ext
  · simp
  · intro i h1 h2
    simp only [Array.getElem_ofFn]
    split
    · rw [h i (by assumption) (by simpa using h1)]
    · rfl
theorem only_ext (hE : Ext w w') (h : hi ≤ w.heap.size) : only w' lo hi = only w lo hi :=
  only_keep fun b _ h2 => hE.block b (by omega)
/-- w' is w with new blocks, but for blocks from lo on, below hi. -/
structure Exc (lo hi : Nat) (w w' : World) : Prop where
  os : w'.os = w.os
  tape : w'.tape = w.tape
  output : w'.output = w.output
  size : w.heap.size ≤ w'.heap.size
  block : ∀ k, k < w.heap.size → (k < lo ∨ hi ≤ k) → w'.heap[k]? = w.heap[k]?
theorem Exc.refl (lo hi : Nat) (w : World) : Exc lo hi w w := ⟨rfl, rfl, rfl, Nat.le_refl _, fun _ _ _ => rfl⟩
theorem Exc.trans {a b c : World} (h : Exc lo hi a b) (k : Exc lo hi b c) : Exc lo hi a c :=
  ⟨k.os.trans h.os, k.tape.trans h.tape, k.output.trans h.output, Nat.le_trans h.size k.size, fun i hi h2 => (k.block i (Nat.lt_of_lt_of_le hi h.size) h2).trans (h.block i hi h2)⟩
theorem Ext.exc (h : Ext w w') : Exc lo hi w w' := ⟨h.os, h.tape, h.output, h.size, fun k hk _ => h.block k hk⟩
theorem Exc.drew {a b : World} (h : Exc lo hi a b) : Exc lo hi a b.drew := ⟨h.os, h.tape, h.output, h.size, h.block⟩
theorem Exc.wide {lo' hi' : Nat} (h : Exc lo hi w w') (h1 : lo' ≤ lo) (h2 : hi ≤ hi') : Exc lo' hi' w w' := ⟨h.os, h.tape, h.output, h.size, fun k hk h3 => h.block k hk (by omega)⟩
/-- What was made since a may be written over. -/
theorem Exc.ext {a : World} (h : Ext a w) (k : Exc lo hi w w') (hl : a.heap.size ≤ lo) : Ext a w' :=
  ⟨k.os.trans h.os, k.tape.trans h.tape, k.output.trans h.output, Nat.le_trans h.size k.size, fun b hb => (k.block b (Nat.lt_of_lt_of_le hb h.size) (.inl (by omega))).trans (h.block b hb)⟩
theorem Exc.only {l h : Nat} (k : Exc lo hi w w') (hh : h ≤ w.heap.size) (hd : h ≤ lo ∨ hi ≤ l) : only w' l h = only w l h :=
  only_keep fun b h1 h2 => k.block b (by omega) (by omega)
theorem Exc.setCell {p : Addr} (h1 : lo ≤ p.block) (h2 : p.block < hi) (v : Value) : Exc lo hi w (w.setCell p v) :=
  ⟨rfl, rfl, rfl, by simp [World.setCell], fun k hk h3 => by
    simp only [World.setCell, Array.getElem?_modify]
    rw [if_neg (by omega)]⟩
/-- v' stands where v stood: the same, or a byte where a byte was. -/
def Turn (v v' : Value) : Prop := v' = v ∨ ∃ x y : UInt8, v = .int .u8 x.toNat ∧ v' = .int .u8 y.toNat
theorem Turn.trans {a b c : Value} (h : Turn a b) (k : Turn b c) : Turn a c := by
  rcases h with rfl | ⟨x, y, rfl, rfl⟩
  · exact k
  · rcases k with rfl | ⟨x', y', _, rfl⟩
    · exact .inr ⟨x, y, rfl, rfl⟩
    · exact .inr ⟨x, y', rfl, rfl⟩
/-- Cells may change, but a byte stays a byte, and what is no byte stays ars it is. -/
def Kind (w w' : World) : Prop := ∀ (b : Nat) (cs : Array Value) (t : TypeId), w.heap[b]? = some (.cells cs t (0, 0)) → ∃ cs' : Array Value, w'.heap[b]? = some (.cells cs' t (0, 0)) ∧ ∀ (i : Nat) (v : Value), cs[i]? = some v → ∃ v', cs'[i]? = some v' ∧ Turn v v'
theorem Kind.refl (w : World) : Kind w w := fun b cs t h => ⟨cs, h, fun i v hv => ⟨v, hv, .inl rfl⟩⟩
theorem Kind.trans {a b c : World} (h : Kind a b) (k : Kind b c) : Kind a c := fun n cs t hc => by
  obtain ⟨c1, h1, e1⟩ := h n cs t hc
  obtain ⟨c2, h2, e2⟩ := k n c1 t h1
  refine ⟨c2, h2, fun i v hv => ?_⟩
  obtain ⟨v1, a1, t1⟩ := e1 i v hv
  obtain ⟨v2, a2, t2⟩ := e2 i v1 a1
  exact ⟨v2, a2, t1.trans t2⟩
theorem Kind.ext (h : Ext w w') : Kind w w' := fun b cs t hc => ⟨cs, h.blk hc, fun i v hv => ⟨v, hv, .inl rfl⟩⟩
theorem Kind.set {p : Addr} {x : UInt8} (h : w.cell? p = some (.int .u8 x.toNat)) (y : UInt8) : Kind w (w.setCell p (.int .u8 y.toNat)) := fun b cs t hc => by
  by_cases e : p.block = b
  · have hs : p.spot = none := by
      unfold World.cell? at h
      rw [e, hc] at h
      cases hp : p.spot with
      | none => rfl
      | some z => simp [hp] at h
    refine ⟨cs.setIfInBounds p.off (.int .u8 y.toNat), by simp [World.setCell, Array.getElem?_modify, e, hc, hs], fun i v hv => ?_⟩
    by_cases ei : p.off = i
    · have hlt := (Array.getElem?_eq_some_iff.1 hv).1
      refine ⟨.int .u8 y.toNat, by rw [Array.getElem?_setIfInBounds, if_pos ei, if_pos (by omega)], .inr ⟨x, y, ?_, rfl⟩⟩
      unfold World.cell? at h
      rw [e, hc, hs] at h
      simp only [Option.isSome_none, Bool.false_eq_true, if_false] at h
      rw [ei, hv] at h
      exact Option.some.inj h
    · exact ⟨v, by rw [Array.getElem?_setIfInBounds, if_neg ei]; exact hv, .inl rfl⟩
  · exact ⟨cs, by simp only [World.setCell, Array.getElem?_modify]; rw [if_neg e]; exact hc, fun i v hv => ⟨v, hv, .inl rfl⟩⟩
theorem only_spot {p : Addr} {v : Value} (h : (only w lo hi).cell? p = some v) : p.spot = none := by
  obtain ⟨_, _, hc, _, cs, t, hh⟩ := only_cell h
  unfold World.cell? at hc
  rw [hh] at hc
  cases hp : p.spot with
  | none => rfl
  | some x => simp [hp] at hc
theorem Kind.only {p : Addr} {v : Value} (k : Kind w w') (h : (only w lo hi).cell? p = some v) : ∃ v', (only w' lo hi).cell? p = some v' ∧ Turn v v' := by
  have hs := only_spot h
  obtain ⟨a, b, hc, _, cs, t, hh⟩ := only_cell h
  obtain ⟨pb, po, ps⟩ := p
  obtain rfl : ps = none := hs
  obtain ⟨cs', h2, h3⟩ := k _ _ _ hh
  obtain ⟨v', h4, h5⟩ := h3 po v (by unfold World.cell? at hc; rw [hh] at hc; simpa using hc)
  exact ⟨v', cell_only h2 a b h4, h5⟩
/-- A slice of the call's own, read in its blocks alone. -/
theorem own_only {α : Type} {d : Rd α} {f : α → List Value} (hf : ∀ x, (f x).length = d.sz) (hK : ∀ w x, d.K w x (f x)) {base : Nat} {e : TypeId} {v : Value} {l : List α}
    (h : w.ownsRow base e d.sz v l.length (l.flatMap f)) (hb : lo ≤ base) (hh : w.heap.size ≤ hi) : ∃ A c, v = .slice A l.length c ∧ l.length ≤ c ∧ c ≤ maxLen ∧ d.Sl (only w lo hi) A l.length l := by
  obtain ⟨hl, ⟨rfl, hn⟩ | ⟨g, cap, cur, rfl, hbg, hc, hle, hm, hs, ht⟩⟩ := h
  · have hl0 : l = [] := List.eq_nil_of_length_eq_zero hn
    subst hl0
    exact ⟨none, 0, rfl, Nat.le_refl _, by decide, Rd.Sl.none d _ none⟩
  · have hg : g < hi := Nat.lt_of_lt_of_le (Array.getElem?_eq_some_iff.1 hc).1 hh
    refine ⟨some ⟨g, 0, none⟩, cap, rfl, hle, hm, rfl, fun _ => ⟨g, 0, rfl, fun i hi' => ⟨f l[i], hK _ _, fun j u hu => ?_⟩⟩⟩
    have hj : j < d.sz := by
      have := (List.getElem?_eq_some_iff.1 hu).1
      rw [hf] at this; exact this
    have hlt : i * d.sz + j < l.length * d.sz := by
      have := Nat.mul_le_mul_right d.sz (show i + 1 ≤ l.length by omega)
      rw [Nat.add_mul] at this; omega
    rw [← flat_get hf l i j hi' hj, ← ht, List.getElem?_take_of_lt hlt] at hu
    rw [show 0 + i * d.sz + j = i * d.sz + j by omega]
    exact cell_only hc (Nat.le_trans hb hbg) hg (by simpa using hu)
end
end Go.Proofs.YtjcpgjnogcmalaaDoor

/-! A region that draws its order, walked in one order that is given: operations that yield whatever the order are taken first, the others come one at a time. -/
namespace Go.Proofs.YtjcpgjnogcmalaaDoor
set_option linter.unusedVariables false
set_option linter.unusedSimpArgs false
section
variable {P : Program} {ops : Array Oper} {Q : Exit → Act → World → Prop} {S : World → Prop}
/-- The rest of the region in the order that is given: (true, i): number i yields in every world that meets S (or its guard is off); (false, i): it is carried out, S is shown behind it. -/
def wpOrd (P : Program) (ops : Array Oper) (Q : Exit → Act → World → Prop) (S : World → Prop) : List (Bool × Nat) → Act → World → Prop
  | [], a, w => Q .normal a w
  | (true, i) :: r, a, w => ∃ o v, ops[i]? = some o ∧ YieldsIf P ops S o v a ∧ wpOrd P ops Q S r (a.put o.dst v) w
  | (false, i) :: r, a, w => wpOp P ops Q i (fun a' w' => S w' ∧ wpOrd P ops Q S r a' w') a w
/-- The order may be taken: by the region's edges alone. -/
def ordB (md : Region.Mode) (ops : Array Oper) : Array Bool → List (Bool × Nat) → Bool
  | l, [] => Region.ready md ops l == []
  | l, (true, i) :: r => Region.free md ops l i && (Region.ready md ops l).contains i && ordB md ops (l.setIfInBounds i true) r
  | l, (false, i) :: r => (Region.ready md ops l == [i]) && ordB md ops (l.setIfInBounds i true) r
theorem wpAnyH_ord {md : Region.Mode} (hs : Region.noSelect ops = true) (hQ : ∀ c a d v w, Q (.panic c) (a.put d v) w → Q (.panic c) a w) :
    ∀ (ord : List (Bool × Nat)) (l : Array Bool) (a : Act) (w : World), ordB md ops l ord = true → S w → wpOrd P ops Q S ord a w → wpAnyH P md ops Q S ord.length l a w
  | [], l, a, w, hb, _, h => wpAnyH_done (by simpa [ordB] using hb) h 0
  | (true, i) :: r, l, a, w, hb, hS, h => by
    simp only [ordB, Bool.and_eq_true] at hb
    obtain ⟨o, v, hi, hy, hr⟩ := h
    exact wpAnyH_take hi hs hb.1.1 hb.1.2 (fun c a w => hQ c a o.dst v w) hy hS (wpAnyH_ord hs hQ r _ _ _ hb.2 hS hr)
  | (false, i) :: r, l, a, w, hb, hS, h => by
    simp only [ordB, Bool.and_eq_true, beq_iff_eq] at hb
    refine wpAnyH_all hb.1 (by simp) (fun j hj => ?_)
    obtain rfl : j = i := by simpa using hj
    exact wpOp_mono (fun a' w' hk => ⟨hk.1, wpAnyH_ord hs hQ r _ _ _ hb.2 hk.1 hk.2⟩) h
/-- The beginning. -/
theorem rg_start {id : Nat} {a : Act} {w : World} (ord : List (Bool × Nat)) (S : World → Prop) (hm : P.follows .mixedOrders = true)
    (hb : (Region.noSelect ops && (ord.length == ops.size) && ordB .any ops (Array.replicate ops.size false) ord) = true) (hQ : ∀ c a d v w, Q (.panic c) (a.put d v) w → Q (.panic c) a w)
    (hS : S w.drew) (h : wpOrd P ops Q S ord a w.drew) : (Code.region id ops true).wp P Q a w := by
  simp only [Bool.and_eq_true, beq_iff_eq] at hb
  refine wp_region_held (S := S) hm ?_
  rw [← hb.1.2]
  have := wpAnyH_ord hb.1.1 hQ ord (Array.replicate ops.size false) a w.drew hb.2 hS h
  rw [← hb.1.2] at this
  exact this
/-- One that yields. -/
theorem rg_y {i : Nat} {r : List (Bool × Nat)} {o : Oper} {n : Tmp} {v : Value} {a a' : Act} {w : World} (ho : ops[i]? = some o) (hN : o.dst = some n) (hw : Region.wanted o (yielded ops a.tmps) = true) (hr : ∀ w', S w' → (execOp a.eval o).run P w' = .ok (.value v) w') (ha : a.put (some n) v = a') (h : wpOrd P ops Q S r a' w) :
    wpOrd P ops Q S ((true, i) :: r) a w := ⟨o, v, ho, .inl ⟨hw, hr⟩, by rw [hN, ha]; exact h⟩
/-- One whose guard is off. -/
theorem rg_off {i : Nat} {r : List (Bool × Nat)} {o : Oper} {n : Tmp} {a a' : Act} {w : World} (ho : ops[i]? = some o) (hN : o.dst = some n) (hw : Region.wanted o (yielded ops a.tmps) = false) (ha : a.put (some n) undef = a') (h : wpOrd P ops Q S r a' w) :
    wpOrd P ops Q S ((true, i) :: r) a w := ⟨o, undef, ho, .inr ⟨hw, rfl⟩, by rw [hN, ha]; exact h⟩
theorem enters {f : FuncId} {fn : Func} (hf : P.funcs[f]? = some fn) (hname : (fn.name == "runtime.NumGoroutine") = false) (hb : fn.body.isSome = true) (args : Array Value) (w : World) : (callFunc f args).run P w = .ok (.enter f args) w := by
  have h1 : fn.name ≠ "runtime.NumGoroutine" := by simpa using hname
  obtain ⟨b, hb⟩ := Option.isSome_iff_exists.1 hb
  simp [callFunc, hf, h1, hb]
/-- A call of a Go function by its contract. -/
theorem rg_call {i : Nat} {r : List (Bool × Nat)} {oi : Oper} {n : Tmp} {a : Act} {w : World} {f : FuncId} {fn : Func} {ars : Array Operand} {ts : Array TypeId} (hi : ops[i]? = some oi) (hf : P.funcs[f]? = some fn) (hname : (fn.name == "runtime.NumGoroutine") = false) (hb : fn.body.isSome = true) (args : Array Value)
    (hw : Region.wanted oi (yielded ops a.tmps) = true) (hN : oi.dst = some n) (hop : oi.op = .call { callee := .value (.func f), args := ars, argTypes := ts }) (hargs : ars.map a.eval = args)
    (h : Calls P f args w fun e w' => ∃ v a', e = .returned v ∧ S w' ∧ a.put (some n) v = a' ∧ wpOrd P ops Q S r a' w') : wpOrd P ops Q S ((false, i) :: r) a w := by
  have he := enters hf hname hb args w
  have hrun : (execOp a.eval oi).run P w = .ok (.enter f args) w := by
    unfold execOp
    simp [hop, resolve, Deferred.ofValue, invoke, Act.eval, hargs, he]
  show wpOp P ops Q i _ a w
  unfold Go.wpOp
  simp only [hi, hw, if_true]
  refine .inl ?_
  unfold Oper.wp
  rw [hrun, Oper.upon_enter]
  refine h.mono fun e w'' hh => ?_
  obtain ⟨v, a', rfl, hS, ha, hk⟩ := hh
  rw [hN]
  show S w'' ∧ wpOrd P ops Q S r (a.put (some n) v) w''
  rw [ha]
  exact ⟨hS, hk⟩
/-- An operation that leaves a value and another world (an alloc, a literal slice). -/
theorem rg_value {i : Nat} {r : List (Bool × Nat)} {oi : Oper} {n : Tmp} {a a' : Act} {w w1 : World} {v : Value} (hi : ops[i]? = some oi) (hN : oi.dst = some n) (hw : Region.wanted oi (yielded ops a.tmps) = true) (hrun : (execOp a.eval oi).run P w = .ok (.value v) w1) (hS : S w1) (ha : a.put (some n) v = a') (h : wpOrd P ops Q S r a' w1) :
    wpOrd P ops Q S ((false, i) :: r) a w := by
  show wpOp P ops Q i _ a w
  unfold Go.wpOp
  simp only [hi, hw, if_true]
  refine .inl ?_
  unfold Oper.wp
  rw [hrun]
  show S w1 ∧ wpOrd P ops Q S r (a.put oi.dst v) w1
  rw [hN, ha]
  exact ⟨hS, h⟩
/-- A store. -/
theorem rg_store {i : Nat} {r : List (Bool × Nat)} {oi : Oper} {a : Act} {w w1 : World} (hi : ops[i]? = some oi) (hw : Region.wanted oi (yielded ops a.tmps) = true) (hN : oi.dst = none) (hrun : (execOp a.eval oi).run P w = .ok .skip w1) (hS : S w1) (h : wpOrd P ops Q S r a w1) :
    wpOrd P ops Q S ((false, i) :: r) a w := by
  show wpOp P ops Q i _ a w
  unfold Go.wpOp
  simp only [hi, hw, if_true]
  refine .inl ?_
  unfold Oper.wp
  rw [hrun]
  show S w1 ∧ wpOrd P ops Q S r (a.put oi.dst undef) w1
  rw [hN]
  exact ⟨hS, h⟩
/-- One that would be carried out, its guard off. -/
theorem rg_eoff {i : Nat} {r : List (Bool × Nat)} {o : Oper} {a a' : Act} {w : World} (ho : ops[i]? = some o) (hw : Region.wanted o (yielded ops a.tmps) = false) (hS : S w) (ha : a.put o.dst undef = a') (h : wpOrd P ops Q S r a' w) :
    wpOrd P ops Q S ((false, i) :: r) a w := by
  show wpOp P ops Q i _ a w
  unfold Go.wpOp
  simp only [ho, hw]
  rw [ha]
  exact ⟨hS, h⟩
theorem rg_end {a : Act} {w : World} (h : Q .normal a w) : wpOrd P ops Q S [] a w := h
end
end Go.Proofs.YtjcpgjnogcmalaaDoor

/-! A region that draws its order, walked along a tree of orders: operations that yield whatever the order are taken first, the others come one at a time, or two beside each other (both orders are walked). -/
namespace Go.Proofs.YtjcpgjnogcmalaaDoor
set_option linter.unusedVariables false
set_option linter.unusedSimpArgs false
inductive Tr where
  | nil
  | y (i : Nat) (r : Tr)
  | e (i : Nat) (r : Tr)
  | two (i j : Nat) (r s : Tr)
def Tr.len : Tr → Nat
  | .nil => 0
  | .y _ r => r.len + 1
  | .e _ r => r.len + 1
  | .two _ _ r _ => r.len + 1
section
variable {P : Program} {ops : Array Oper} {Q : Exit → Act → World → Prop} {S : World → Prop} {md : Region.Mode}
/-- z waits for j, by the region's edges. -/
def waitsFor (md : Region.Mode) (ops : Array Oper) : Nat → Nat → Nat → Bool
  | 0, _, _ => false
  | n + 1, z, j => match ops[z]? with
    | some o => o.after.any fun e => Region.binds md e && (e.on == j || waitsFor md ops n e.on j)
    | none => false
/-- z waits for all others. -/
def lastOp (md : Region.Mode) (ops : Array Oper) (z : Nat) : Bool := (List.range ops.size).all fun j => j == z || waitsFor md ops ops.size z j
/-- Whatever was done waited for what it had to. -/
def ShutL (md : Region.Mode) (ops : Array Oper) (l : Array Bool) : Prop := ∀ k o, l.getD k false = true → ops[k]? = some o → ∀ e ∈ o.after, Region.binds md e = true → l.getD e.on false = true
theorem waits_done {l : Array Bool} (hl : ShutL md ops l) : ∀ (n z j : Nat) (o : Oper), ops[z]? = some o → (∀ e ∈ o.after, Region.binds md e = true → l.getD e.on false = true) → waitsFor md ops n z j = true → l.getD j false = true
  | 0, _, _, _, _, _, h => by simp [waitsFor] at h
  | n + 1, z, j, o, ho, hz, h => by
    unfold waitsFor at h
    rw [ho] at h
    obtain ⟨e, he, hb⟩ := Array.any_eq_true'.1 h
    simp only [Bool.and_eq_true, Bool.or_eq_true, beq_iff_eq] at hb
    have h1 := hz e he hb.1
    rcases hb.2 with rfl | h2
    · exact h1
    · cases hk : ops[e.on]? with
      | none =>
        exfalso
        cases n with
        | zero => simp [waitsFor] at h2
        | succ n => unfold waitsFor at h2; rw [hk] at h2; cases h2
      | some o' => exact waits_done hl n e.on j o' hk (hl e.on o' h1 hk) h2
theorem getD_set_false {l : Array Bool} {i k : Nat} (h : (l.setIfInBounds i true).getD k false = true) : l.getD k false = true ∨ k = i := by
  by_cases e : i = k
  · exact .inr e.symm
  · left
    rcases Nat.lt_or_ge k l.size with h' | h'
    · simp [Array.getElem?_setIfInBounds, e, h'] at h ⊢; exact h
    · simp [h'] at h
theorem ShutL.step {l : Array Bool} (hl : ShutL md ops l) {i : Nat} (hi : i ∈ Region.ready md ops l) : ShutL md ops (l.setIfInBounds i true) := by
  intro k o hk ho e he hb
  obtain ⟨_, oi, hoi, hall⟩ := mem_ready.1 hi
  rcases getD_set_false hk with h | rfl
  · exact getD_set_true (hl k o h ho e he hb)
  · rw [hoi] at ho
    obtain rfl := Option.some.inj ho
    exact getD_set_true (hall e he hb)
theorem ShutL.start (n : Nat) : ShutL md ops (Array.replicate n false) := by
  intro k o hk
  rcases Nat.lt_or_ge k n with h | h <;> simp [h] at hk
/-- If z may come up, all others have. -/
theorem last_done {l : Array Bool} (hl : ShutL md ops l) {z j : Nat} (hz : z ∈ Region.ready md ops l) (h : lastOp md ops z = true) (hj : j < ops.size) (hne : j ≠ z) : l.getD j false = true := by
  obtain ⟨_, o, ho, hall⟩ := mem_ready.1 hz
  unfold lastOp at h
  have := List.all_eq_true.1 h j (List.mem_range.2 hj)
  simp only [Bool.or_eq_true, beq_iff_eq] at this
  exact waits_done hl _ z j o ho hall (this.resolve_left hne)
/-- wpAnyH, where the last of all need not keep S. -/
def wpAnyZ (P : Program) (md : Region.Mode) (ops : Array Oper) (Q : Exit → Act → World → Prop) (S : World → Prop) : Nat → Array Bool → Act → World → Prop
  | 0, listed, a, w => Region.ready md ops listed = [] ∧ Q .normal a w
  | fuel + 1, listed, a, w =>
    (Region.ready md ops listed = [] → Q .normal a w) ∧
    ∀ i ∈ Region.ready md ops listed, wpOp P ops Q i (fun a' w' => (S w' ∨ lastOp md ops i = true) ∧ wpAnyZ P md ops Q S fuel (listed.setIfInBounds i true) a' w') a w
theorem wpAny_of_Z : ∀ (fuel : Nat) (listed : Array Bool) (a : Act) (w : World), wpAnyZ P md ops Q S fuel listed a w → wpAny P md ops Q fuel listed a w
  | 0, _, _, _, h => h
  | fuel + 1, _, _, _, h => ⟨h.1, fun i hi => wpOp_mono (fun a' w' h' => wpAny_of_Z fuel _ a' w' h'.2) (h.2 i hi)⟩
theorem wpAnyZ_first {i : Nat} {oi : Oper} {v : Value} (hi : ops[i]? = some oi) (hsel : ∀ (j : Nat) (o : Oper) cs b, ops[j]? = some o → o.op ≠ .select cs b)
    (hQ : ∀ c a w, Q (.panic c) (a.put oi.dst v) w → Q (.panic c) a w) :
    ∀ (fuel : Nat) (listed : Array Bool) (a : Act) (w : World), ShutL md ops listed →
      (∀ j oj, ops[j]? = some oj → j ≠ i → listed.getD j true = false → (∀ e ∈ oj.after, Region.binds md e = true → e.on ≠ i) → oi.apart ops oj = true) →
      i ∈ Region.ready md ops listed → YieldsIf P ops S oi v a → S w →
      wpAnyZ P md ops Q S fuel (listed.setIfInBounds i true) (a.put oi.dst v) w → wpAnyZ P md ops Q S (fuel + 1) listed a w := by
  intro fuel
  induction fuel with
  | zero =>
    intro listed a w hsh hfree hr hy hS H
    refine ⟨fun h => (by rw [h] at hr; cases hr), fun j hj => ?_⟩
    by_cases hji : j = i
    · subst hji; exact hy.wpOp hi hS ⟨.inl hS, H⟩
    · have := ready_mono hj hji
      rw [H.1] at this
      cases this
  | succ fuel ih =>
    intro listed a w hsh hfree hr hy hS H
    refine ⟨fun h => (by rw [h] at hr; cases hr), fun j hj => ?_⟩
    by_cases hji : j = i
    · subst hji; exact hy.wpOp hi hS ⟨.inl hS, H⟩
    · have h1 := H.2 j (ready_mono hj hji)
      obtain ⟨hjun, oj, hoj, hall⟩ := mem_ready.1 hj
      have hiun := (mem_ready.1 hr).1
      have hnot : ∀ e ∈ oj.after, Region.binds md e = true → e.on ≠ i := fun e he hb heq => by
        have h1 := hall e he hb
        have h0 := (mem_ready.1 hr).1
        rw [heq] at h1
        rcases Nat.lt_or_ge i listed.size with h' | h'
        · simp [h'] at h0 h1; rw [h0] at h1; cases h1
        · simp [Array.getElem?_eq_none h'] at h1
      have hnl : ¬ lastOp md ops j = true := fun hl => by
        have h2 := last_done hsh hj hl (Array.getElem?_eq_some_iff.1 hi).1 (Ne.symm hji)
        rcases Nat.lt_or_ge i listed.size with h' | h'
        · simp [h'] at hiun h2; rw [hiun] at h2; cases h2
        · simp [h'] at h2
      have h2 := wpOp_putIf hoj (hfree j oj hoj hji hjun hnot) (fun cs b => hsel i oi cs b hi) (fun cs b => hsel j oj cs b hoj) hQ hy h1
      have hfree' : ∀ k ok, ops[k]? = some ok → k ≠ i → (listed.setIfInBounds j true).getD k true = false →
          (∀ e ∈ ok.after, Region.binds md e = true → e.on ≠ i) → oi.apart ops ok = true := fun k ok hk hki hun hno => by
        refine hfree k ok hk hki ?_ hno
        by_cases hjk : j = k
        · subst hjk; exact hjun
        · rw [getD_set_ne true hjk] at hun; exact hun
      refine wpOp_mono (fun a' w' h3 => ⟨.inl (h3.2.1.resolve_right hnl), ih (listed.setIfInBounds j true) a' w' (hsh.step hj) hfree' (ready_mono hr (Ne.symm hji)) h3.1 (h3.2.1.resolve_right hnl) ?_⟩) h2
      rw [Array.setIfInBounds_comm _ _ hji]
      exact h3.2.2
def wpTr (P : Program) (ops : Array Oper) (Q : Exit → Act → World → Prop) (S : World → Prop) : Tr → Act → World → Prop
  | .nil, a, w => Q .normal a w
  | .y i r, a, w => ∃ o v, ops[i]? = some o ∧ YieldsIf P ops S o v a ∧ wpTr P ops Q S r (a.put o.dst v) w
  | .e i r, a, w => wpOp P ops Q i (fun a' w' => (S w' ∨ (r = .nil ∧ lastOp .any ops i = true)) ∧ wpTr P ops Q S r a' w') a w
  | .two i j r s, a, w => wpOp P ops Q i (fun a' w' => (S w' ∨ (r = .nil ∧ lastOp .any ops i = true)) ∧ wpTr P ops Q S r a' w') a w ∧ wpOp P ops Q j (fun a' w' => (S w' ∨ (s = .nil ∧ lastOp .any ops j = true)) ∧ wpTr P ops Q S s a' w') a w
def ordT (md : Region.Mode) (ops : Array Oper) : Array Bool → Tr → Bool
  | l, .nil => Region.ready md ops l == []
  | l, .y i r => Region.free md ops l i && (Region.ready md ops l).contains i && ordT md ops (l.setIfInBounds i true) r
  | l, .e i r => (Region.ready md ops l == [i]) && ordT md ops (l.setIfInBounds i true) r
  | l, .two i j r s => (Region.ready md ops l == [i, j]) && ordT md ops (l.setIfInBounds i true) r && ordT md ops (l.setIfInBounds j true) s && (r.len == s.len)
theorem wpAnyZ_all {rs : List Nat} {fuel : Nat} {listed : Array Bool} {a : Act} {w : World} (hr : Region.ready md ops listed = rs) (hne : rs ≠ [])
    (h : ∀ i ∈ rs, wpOp P ops Q i (fun a' w' => (S w' ∨ lastOp md ops i = true) ∧ wpAnyZ P md ops Q S fuel (listed.setIfInBounds i true) a' w') a w) : wpAnyZ P md ops Q S (fuel + 1) listed a w :=
  ⟨fun h0 => absurd (hr ▸ h0) hne, hr ▸ h⟩
theorem wpAnyZ_done : ∀ {listed : Array Bool} {a : Act} {w : World}, Region.ready md ops listed = [] → Q .normal a w → ∀ n, wpAnyZ P md ops Q S n listed a w
  | _, _, _, hr, h, 0 => ⟨hr, h⟩
  | _, _, _, hr, h, n + 1 => ⟨fun _ => h, fun i hi => (by rw [hr] at hi; cases hi)⟩
theorem wpAnyZ_tr (hs : Region.noSelect ops = true) (hQ : ∀ c a d v w, Q (.panic c) (a.put d v) w → Q (.panic c) a w) :
    ∀ (t : Tr) (l : Array Bool) (a : Act) (w : World), ShutL .any ops l → ordT .any ops l t = true → (S w ∨ t = .nil) → wpTr P ops Q S t a w → wpAnyZ P .any ops Q S t.len l a w
  | .nil, l, a, w, _, hb, _, h => wpAnyZ_done (by simpa [ordT] using hb) h 0
  | .y i r, l, a, w, hl, hb, hS, h => by
    simp only [ordT, Bool.and_eq_true] at hb
    obtain ⟨o, v, hi, hy, hr⟩ := h
    have hS := hS.resolve_right (by simp)
    have hm : i ∈ Region.ready .any ops l := by simpa using hb.1.2
    exact wpAnyZ_first hi (Region.noSelect_spec hs) (fun c a w => hQ c a o.dst v w) _ l a w hl (Region.free_spec hi hb.1.1) hm hy hS (wpAnyZ_tr hs hQ r _ _ _ (hl.step hm) hb.2 (.inl hS) hr)
  | .e i r, l, a, w, hl, hb, hS, h => by
    simp only [ordT, Bool.and_eq_true, beq_iff_eq] at hb
    have hm : i ∈ Region.ready .any ops l := by rw [hb.1]; simp
    refine wpAnyZ_all hb.1 (by simp) (fun j hj => ?_)
    obtain rfl : j = i := by simpa using hj
    exact wpOp_mono (fun a' w' hk => ⟨hk.1.imp id And.right, wpAnyZ_tr hs hQ r _ _ _ (hl.step hm) hb.2 (hk.1.imp id And.left) hk.2⟩) h
  | .two i j r s, l, a, w, hl, hb, hS, h => by
    simp only [ordT, Bool.and_eq_true, beq_iff_eq] at hb
    obtain ⟨⟨⟨hb1, hb2⟩, hb3⟩, hb4⟩ := hb
    have hm1 : i ∈ Region.ready .any ops l := by rw [hb1]; simp
    have hm2 : j ∈ Region.ready .any ops l := by rw [hb1]; simp
    refine wpAnyZ_all hb1 (by simp) (fun m hm => ?_)
    rcases (by simpa using hm : m = i ∨ m = j) with rfl | rfl
    · exact wpOp_mono (fun a' w' hk => ⟨hk.1.imp id And.right, wpAnyZ_tr hs hQ r _ _ _ (hl.step hm1) hb2 (hk.1.imp id And.left) hk.2⟩) h.1
    · show wpOp P ops Q m (fun a' w' => (S w' ∨ lastOp .any ops m = true) ∧ wpAnyZ P .any ops Q S r.len (l.setIfInBounds m true) a' w') a w
      rw [hb4]
      exact wpOp_mono (fun a' w' hk => ⟨hk.1.imp id And.right, wpAnyZ_tr hs hQ s _ _ _ (hl.step hm2) hb3 (hk.1.imp id And.left) hk.2⟩) h.2
theorem tr_start {id : Nat} {a : Act} {w : World} (t : Tr) (S : World → Prop) (hm : P.follows .mixedOrders = true)
    (hb : (Region.noSelect ops && (t.len == ops.size) && ordT .any ops (Array.replicate ops.size false) t) = true) (hQ : ∀ c a d v w, Q (.panic c) (a.put d v) w → Q (.panic c) a w)
    (hS : S w.drew) (h : wpTr P ops Q S t a w.drew) : (Code.region id ops true).wp P Q a w := by
  simp only [Bool.and_eq_true, beq_iff_eq] at hb
  refine wp_region_any hm ?_
  have := wpAny_of_Z _ _ _ _ (wpAnyZ_tr hb.1.1 hQ t (Array.replicate ops.size false) a w.drew (ShutL.start _) hb.2 (.inl hS) h)
  rw [hb.1.2] at this
  exact this
variable {i : Nat} {r : Tr} {o : Oper} {n : Tmp} {v : Value} {a a' : Act} {w w1 : World}
theorem tr_y (ho : ops[i]? = some o) (hN : o.dst = some n) (hw : Region.wanted o (yielded ops a.tmps) = true) (hr : ∀ w', S w' → (execOp a.eval o).run P w' = .ok (.value v) w') (ha : a.put (some n) v = a') (h : wpTr P ops Q S r a' w) :
    wpTr P ops Q S (.y i r) a w := ⟨o, v, ho, .inl ⟨hw, hr⟩, by rw [hN, ha]; exact h⟩
theorem tr_off (ho : ops[i]? = some o) (hN : o.dst = some n) (hw : Region.wanted o (yielded ops a.tmps) = false) (ha : a.put (some n) undef = a') (h : wpTr P ops Q S r a' w) :
    wpTr P ops Q S (.y i r) a w := ⟨o, undef, ho, .inr ⟨hw, rfl⟩, by rw [hN, ha]; exact h⟩
theorem tr_two {j : Nat} {s : Tr} (h : wpTr P ops Q S (.e i r) a w) (k : wpTr P ops Q S (.e j s) a w) : wpTr P ops Q S (.two i j r s) a w := ⟨h, k⟩
theorem tr_call {f : FuncId} {fn : Func} {ars : Array Operand} {ts : Array TypeId} (hi : ops[i]? = some o) (hf : P.funcs[f]? = some fn) (hname : (fn.name == "runtime.NumGoroutine") = false) (hb : fn.body.isSome = true) (args : Array Value)
    (hw : Region.wanted o (yielded ops a.tmps) = true) (hN : o.dst = some n) (hop : o.op = .call { callee := .value (.func f), args := ars, argTypes := ts }) (hargs : ars.map a.eval = args)
    (h : Calls P f args w fun e w' => ∃ v a', e = .returned v ∧ S w' ∧ a.put (some n) v = a' ∧ wpTr P ops Q S r a' w') : wpTr P ops Q S (.e i r) a w := by
  have he := enters hf hname hb args w
  have hrun : (execOp a.eval o).run P w = .ok (.enter f args) w := by
    unfold execOp
    simp [hop, resolve, Deferred.ofValue, invoke, Act.eval, hargs, he]
  show wpOp P ops Q i _ a w
  unfold Go.wpOp
  simp only [hi, hw, if_true]
  refine .inl ?_
  unfold Oper.wp
  rw [hrun, Oper.upon_enter]
  refine h.mono fun e w'' hh => ?_
  obtain ⟨v, a', rfl, hS, ha, hk⟩ := hh
  rw [hN]
  show (S w'' ∨ _) ∧ wpTr P ops Q S r (a.put (some n) v) w''
  rw [ha]
  exact ⟨.inl hS, hk⟩
/-- An operation that leaves a value and another world (an alloc, a literal slice). -/
theorem tr_value (hi : ops[i]? = some o) (hN : o.dst = some n) (hw : Region.wanted o (yielded ops a.tmps) = true) (hrun : (execOp a.eval o).run P w = .ok (.value v) w1) (hS : S w1) (ha : a.put (some n) v = a') (h : wpTr P ops Q S r a' w1) :
    wpTr P ops Q S (.e i r) a w := by
  show wpOp P ops Q i _ a w
  unfold Go.wpOp
  simp only [hi, hw, if_true]
  refine .inl ?_
  unfold Oper.wp
  rw [hrun]
  show (S w1 ∨ _) ∧ wpTr P ops Q S r (a.put o.dst v) w1
  rw [hN, ha]
  exact ⟨.inl hS, h⟩
/-- A step at large: what the operation's run comes to. -/
theorem tr_stepL (hi : ops[i]? = some o) (hw : Region.wanted o (yielded ops a.tmps) = true) (h : Oper.wp P o a w (fun a' w' => (S w' ∨ (r = .nil ∧ lastOp .any ops i = true)) ∧ wpTr P ops Q S r a' w') Q) : wpTr P ops Q S (.e i r) a w := by
  show wpOp P ops Q i _ a w
  unfold Go.wpOp
  simp only [hi, hw, if_true]
  exact .inl h
theorem tr_step (hi : ops[i]? = some o) (hw : Region.wanted o (yielded ops a.tmps) = true) (h : Oper.wp P o a w (fun a' w' => S w' ∧ wpTr P ops Q S r a' w') Q) : wpTr P ops Q S (.e i r) a w :=
  tr_stepL hi hw (Oper.wp_mono (fun _ _ hk => ⟨.inl hk.1, hk.2⟩) h)
/-- The last of all, a store: it need not keep S. -/
theorem tr_last (hi : ops[i]? = some o) (hw : Region.wanted o (yielded ops a.tmps) = true) (hN : o.dst = none) (hz : lastOp .any ops i = true) (hrun : (execOp a.eval o).run P w = .ok .skip w1) (h : Q .normal a w1) : wpTr P ops Q S (.e i .nil) a w := by
  refine tr_stepL hi hw ?_
  unfold Oper.wp
  rw [hrun]
  show (S w1 ∨ _) ∧ wpTr P ops Q S .nil (a.put o.dst undef) w1
  rw [hN]
  exact ⟨.inr ⟨rfl, hz⟩, h⟩
theorem tr_store (hi : ops[i]? = some o) (hw : Region.wanted o (yielded ops a.tmps) = true) (hN : o.dst = none) (hrun : (execOp a.eval o).run P w = .ok .skip w1) (hS : S w1) (h : wpTr P ops Q S r a w1) :
    wpTr P ops Q S (.e i r) a w := by
  refine tr_step hi hw ?_
  unfold Oper.wp
  rw [hrun]
  show S w1 ∧ wpTr P ops Q S r (a.put o.dst undef) w1
  rw [hN]
  exact ⟨hS, h⟩
theorem tr_eoff (ho : ops[i]? = some o) (hw : Region.wanted o (yielded ops a.tmps) = false) (hS : S w) (ha : a.put o.dst undef = a') (h : wpTr P ops Q S r a' w) :
    wpTr P ops Q S (.e i r) a w := by
  show wpOp P ops Q i _ a w
  unfold Go.wpOp
  simp only [ho, hw]
  rw [ha]
  exact ⟨.inl hS, h⟩
theorem tr_end (h : Q .normal a w) : wpTr P ops Q S .nil a w := h
end
end Go.Proofs.YtjcpgjnogcmalaaDoor

/-! append to a slice of the call's own, of whatever slice is read: one law for plain regions and for walked ones; a slice expression. -/
namespace Go.Proofs.YtjcpgjnogcmalaaDoor
set_option linter.unusedVariables false
set_option linter.unusedSimpArgs false
open Go.RowKit
/-- n elements of sz cells from A on are these cells. -/
def Cells (w : World) (A : Option Addr) (n sz : Nat) (news : List Value) : Prop :=
  news.length = n * sz ∧ (A = none → n = 0) ∧ ∀ ad, A = some ad → ∀ j u, news[j]? = some u → w.cell? (ad.add j) = some u
/-- A slice type, its element's cells and bytes. -/
structure Elt (P : Program) (t e : TypeId) (sz bytes : Nat) : Prop where
  ht : P.underlying t = some (.slice e)
  hi : ∃ i z, P.info? e = some i ∧ i.zero = some z ∧ i.size = sz ∧ i.bytes = bytes ∧ z.cells.size = sz
  hs : 0 < sz
theorem Elt.mk' {P : Program} {t e : TypeId} {sz bytes : Nat} {z : Value} (ht : P.underlying t = some (.slice e)) (h : (P.info? e).map (fun i => (i.zero, i.size, i.bytes)) = some (some z, sz, bytes)) (hz : z.cells.size = sz) (hs : 0 < sz) : Elt P t e sz bytes := by
  obtain ⟨i, hi, h0, h1, h2⟩ := info_parts h
  exact ⟨ht, ⟨i, z, hi, h0, h1, h2, hz⟩, hs⟩
section
variable {P : Program} {t e : TypeId} {sz bytes : Nat} {w : World} {base : Nat} {v : Value} {n m c : Nat} {xs news : List Value} {A : Option Addr}
theorem run_append_cells (E : Elt P t e sz bytes) (ty : TypeId) (hown : w.ownsRow base e sz v n xs) (hc : Cells w A m sz news) (h1 : ∀ u ∈ news, u.oneCell' = true)
    (h63 : n + m ≤ maxLen) (hbytes : (n + m) * bytes ≤ 140737488355328) (hbase : base ≤ w.heap.size) :
    ∃ v' w', (Builtin.append_ #[t, t] ty #[v, .slice A m c]).run P w = .ok v' w' ∧ w'.ownsRow base e sz v' (n + m) (xs ++ news) ∧ w.grownBy w' v.ownBlock := by
  obtain ⟨i, z, hi, hz, hsz, hby, hzc⟩ := E.hi
  cases A with
  | some ad =>
    obtain ⟨v', w', h2, h3, h4, _⟩ := run_append_own (P := P) w base t ty e i z sz bytes E.ht hi hz hsz hby hzc E.hs v n xs hown ad m c news hc.1 (hc.2.2 ad rfl) h1 h63 hbytes hbase
    exact ⟨v', w', h2, h3, h4⟩
  | none =>
    obtain rfl : m = 0 := hc.2.1 rfl
    obtain rfl : news = [] := List.eq_nil_of_length_eq_zero (by rw [hc.1]; simp)
    refine ⟨v, w, ?_, by simpa using hown, ⟨rfl, rfl, rfl, Nat.le_refl _, fun _ _ _ => rfl⟩⟩
    subst hsz
    rcases hown.2 with ⟨rfl, rfl⟩ | ⟨g, cap, cur, rfl, _, _, hnc, _⟩
    · simp [Builtin.append_, run_underlying E.ht, sizeOf, typeInfo, hi, Builtin.lenOf, Builtin.firstCells]
    · simp [Builtin.append_, run_underlying E.ht, sizeOf, typeInfo, hi, Builtin.lenOf, Builtin.firstCells, hnc, storeCells]
theorem wp_append_cells {o : Oper} {a : Act} {K : Act → World → Prop} {Q : Exit → Act → World → Prop} (E : Elt P t e sz bytes) (s x : Operand)
    (ho : o.op = .call { callee := .builtin .append, args := #[s, x], argTypes := #[t, t] }) (hown : w.ownsRow base e sz (a.eval s) n xs) (hx : a.eval x = .slice A m c) (hc : Cells w A m sz news) (h1 : ∀ u ∈ news, u.oneCell' = true)
    (h63 : n + m ≤ maxLen) (hbytes : (n + m) * bytes ≤ 140737488355328) (hbase : base ≤ w.heap.size)
    (h : ∀ v' w', w'.ownsRow base e sz v' (n + m) (xs ++ news) → w.grownBy w' (a.eval s).ownBlock → K (a.put o.dst v') w') : o.wp P a w K Q := by
  obtain ⟨v', w', hr, h2, h3⟩ := run_append_cells (c := c) E o.type hown hc h1 h63 hbytes hbase
  unfold Oper.wp execOp
  simp only [ho, resolve, invoke, builtin, Sem.run_bind, Sem.run_pure, Result.andThen_ok, List.map_toArray, List.map_cons, List.map_nil, hx, hr]
  exact h v' w' h2 h3
theorem wpList_append_cells {ops : Array Oper} {rest : List Oper} {o : Oper} {a : Act} {Q : Exit → Act → World → Prop} (hgd : o.guard = none) (E : Elt P t e sz bytes) (s x : Operand)
    (ho : o.op = .call { callee := .builtin .append, args := #[s, x], argTypes := #[t, t] }) (hown : w.ownsRow base e sz v n xs) (hs : a.eval s = v) (hx : a.eval x = .slice A m c) (hc : Cells w A m sz news) (h1 : ∀ u ∈ news, u.oneCell' = true)
    (h63 : n + m ≤ maxLen) (hbytes : (n + m) * bytes ≤ 140737488355328) (hbase : base ≤ w.heap.size)
    (h : ∀ v' w', w'.ownsRow base e sz v' (n + m) (xs ++ news) → w.grownBy w' v.ownBlock → wpList P ops Q rest (a.put o.dst v') w') : wpList P ops Q (o :: rest) a w := by
  subst hs
  exact wpList_plain hgd fun _ hK => wp_append_cells E s x ho hown hx hc h1 h63 hbytes hbase fun v' w' h2 h3 => hK _ _ (h v' w' h2 h3)
/-- The same at a walked region's step. -/
theorem tr_append {ops : Array Oper} {Q : Exit → Act → World → Prop} {S : World → Prop} {i : Nat} {r : Tr} {o : Oper} {a : Act} {nn : Tmp} (hi : ops[i]? = some o) (hw : Region.wanted o (yielded ops a.tmps) = true) (hN : o.dst = some nn) (E : Elt P t e sz bytes) (s x : Operand)
    (ho : o.op = .call { callee := .builtin .append, args := #[s, x], argTypes := #[t, t] }) (hown : w.ownsRow base e sz v n xs) (hs : a.eval s = v) (hx : a.eval x = .slice A m c) (hc : Cells w A m sz news) (h1 : ∀ u ∈ news, u.oneCell' = true)
    (h63 : n + m ≤ maxLen) (hbytes : (n + m) * bytes ≤ 140737488355328) (hbase : base ≤ w.heap.size)
    (h : ∀ v' w', w'.ownsRow base e sz v' (n + m) (xs ++ news) → w.grownBy w' v.ownBlock → ∃ a', S w' ∧ a.put (some nn) v' = a' ∧ wpTr P ops Q S r a' w') : wpTr P ops Q S (.e i r) a w := by
  subst hs
  exact tr_step hi hw (wp_append_cells E s x ho hown hx hc h1 h63 hbytes hbase fun v' w' h2 h3 => by
    obtain ⟨a', hS, rfl, hk⟩ := h v' w' h2 h3
    rw [hN]
    exact ⟨hS, hk⟩)
/-- The cells of a slice that is read by a descriptor whose cells are f's. -/
theorem sl_cellsOf {α : Type} {d : Rd α} {f : α → List Value} (hK : ∀ w x cs, d.K w x cs → cs = f x) (hf : ∀ x, (f x).length = d.sz) {ys : List α} (h : d.Sl w A m ys) : Cells w A m d.sz (ys.flatMap f) := by
  refine ⟨?_, fun hA => ?_, fun ad hA j u hu => ?_⟩
  · rw [← h.1]
    clear h
    induction ys with
    | nil => simp
    | cons x l ih => rw [List.flatMap_cons, List.length_append, hf, ih, List.length_cons, Nat.add_mul]; omega
  · rcases Nat.eq_zero_or_pos m with h0 | h0
    · exact h0
    · obtain ⟨b, o, e, _⟩ := h.2 h0
      rw [hA] at e; cases e
  · have hlen : (ys.flatMap f).length = m * d.sz := by
      rw [← h.1]
      clear hu h
      induction ys with
      | nil => simp
      | cons x l ih => rw [List.flatMap_cons, List.length_append, hf, ih, List.length_cons, Nat.add_mul]; omega
    have hj : j < m * d.sz := by
      have := (List.getElem?_eq_some_iff.1 hu).1
      rwa [hlen] at this
    have hsz : 0 < d.sz := Nat.pos_of_ne_zero fun e => by rw [e] at hj; omega
    have hi : j / d.sz < m := (Nat.div_lt_iff_lt_mul hsz).2 hj
    obtain ⟨b, o, cs, e, hk, hcell⟩ := h.get (j / d.sz) hi
    rw [hA] at e
    obtain rfl := Option.some.inj e
    have hcs := hK _ _ _ hk
    have hm : j % d.sz < d.sz := Nat.mod_lt _ hsz
    have hdm : j / d.sz * d.sz + j % d.sz = j := by rw [Nat.mul_comm]; exact Nat.div_add_mod _ _
    have h1 := flat_get hf ys (j / d.sz) (j % d.sz) (by rw [h.1]; exact hi) hm
    rw [hdm, hu] at h1
    have h2 := hcell (j % d.sz) u (by rw [hcs]; exact h1.symm)
    have e2 : (⟨b, o, none⟩ : Addr).add j = ⟨b, o + j / d.sz * d.sz + j % d.sz, none⟩ := by
      unfold Addr.add
      rw [Nat.add_assoc, hdm]
      split <;> simp_all
    rw [e2]
    exact h2
/-- Where a slice's rest lies. -/
def restA (A : Option Addr) (c i sz : Nat) : Option Addr := if c = i then A else A.map (·.add (i * sz))
theorem run_slice_from (E : Elt P t e sz bytes) (A : Option Addr) (n c i : Nat) (h : i ≤ n) (w : World) : (Instr.sliceAt t (.slice A n c) (some (.int .i64 i)) none none).run P w = .ok (.slice (restA A c i sz) (n - i) (c - i)) w := by
  obtain ⟨inf, z, hi, hz, hsz, hby, hzc⟩ := E.hi
  have h0 := E.ht
  have he : P.elem t = e := by simp [Program.elem, h0]
  have h2 : P.underlying t = some (.slice (P.elem t)) := by rw [he]; exact h0
  rw [run_sliceAt_slice _ t _ _ _ _ h2, run_slice_l _ t A n c h2 .i64 i (by omega) (by omega), he]
  simp [sizeOf, typeInfo, hi, hsz, sliced, restA, Result.andThen]
theorem wpList_slice_from {ops : Array Oper} {rest : List Oper} {o : Oper} {a : Act} {Q : Exit → Act → World → Prop} (hgd : o.guard = none) (E : Elt P t e sz bytes) (x lo : Operand) (ho : o.op = .slice t x (some lo) none none)
    (A : Option Addr) (n c i : Nat) (hx : a.eval x = .slice A n c) (hlo : a.eval lo = .int .i64 (i : Int)) (h : i ≤ n) (k : wpList P ops Q rest (a.put o.dst (.slice (restA A c i sz) (n - i) (c - i))) w) : wpList P ops Q (o :: rest) a w :=
  wpList_plain hgd fun K hK => by
    unfold Oper.wp execOp
    simp [ho, hx, hlo, run_slice_from E A n c i h w, Oper.upon]
    exact hK _ _ k
theorem sl_rest {α : Type} {d : Rd α} {ys : List α} (h : d.Sl w A n ys) (c i : Nat) (hi : i ≤ n) (hc : n ≤ c) : d.Sl w (restA A c i d.sz) (n - i) (ys.drop i) := by
  refine ⟨by rw [List.length_drop, h.1], fun h0 => ?_⟩
  obtain ⟨b, o, e, hcell⟩ := h.2 (by omega)
  refine ⟨b, o + i * d.sz, ?_, fun k hk => ?_⟩
  · unfold restA
    rw [if_neg (by omega), e]
    simp only [Option.map_some]
    unfold Addr.add
    split <;> simp_all
  · rw [List.length_drop] at hk
    obtain ⟨cs, hk', hc'⟩ := hcell (i + k) (by omega)
    refine ⟨cs, by rw [List.getElem_drop]; exact hk', fun j u hu => ?_⟩
    have := hc' j u hu
    rwa [Nat.add_mul, ← Nat.add_assoc] at this
end
end Go.Proofs.YtjcpgjnogcmalaaDoor

/-! A region that draws its order, walked once in the text's order: each operation leaves the same value whatever the order (stable in every world that meets S), or is one of a chain of effects that bring the worlds from S k to S (k + 1). -/
namespace Go.Proofs.YtjcpgjnogcmalaaDoor
set_option linter.unusedVariables false
set_option linter.unusedSimpArgs false
section
variable {P : Program} {ops : Array Oper} {Q : Exit → Act → World → Prop} {S : Nat → World → Prop} {md : Region.Mode} {eff : Nat → Bool}
/-- From every world that meets S the operation comes to the value v, and to a world that meets T. -/
def RunsTo (P : Program) (S T : World → Prop) (m : Sem Next) (v : Value) : Prop :=
  ∀ w, S w → (∃ w', m.run P w = .ok (.value v) w' ∧ T w') ∨ (∃ w', v = undef ∧ m.run P w = .ok .skip w' ∧ T w') ∨
    (∃ f args w1, m.run P w = .ok (.enter f args) w1 ∧ Calls P f args w1 fun e w' => e = .returned v ∧ T w')
/-- Operation o, an effect (b) or stable, in phase k, comes to v. -/
def Stab (P : Program) (ops : Array Oper) (S : Nat → World → Prop) (b : Bool) (k : Nat) (o : Oper) (v : Value) (a : Act) : Prop :=
  (Region.wanted o (yielded ops a.tmps) = true ∧ (b = true → RunsTo P (S k) (S (k + 1)) (execOp a.eval o) v) ∧ (b = false → ∀ k, RunsTo P (S k) (S k) (execOp a.eval o) v)) ∨
  (Region.wanted o (yielded ops a.tmps) = false ∧ v = undef ∧ (b = true → ∀ w, S k w → S (k + 1) w))
def nextK (b : Bool) (k : Nat) : Nat := bif b then k + 1 else k
theorem Stab.same {b : Bool} {k : Nat} {o : Oper} {v : Value} {a a' : Act} (h : Stab P ops S b k o v a) (he : execOp a'.eval o = execOp a.eval o)
    (hw : Region.wanted o (yielded ops a'.tmps) = Region.wanted o (yielded ops a.tmps)) : Stab P ops S b k o v a' := by
  unfold Stab at *
  rw [he, hw]
  exact h
theorem Stab.phase {k k' : Nat} {o : Oper} {v : Value} {a : Act} (h : Stab P ops S false k o v a) : Stab P ops S false k' o v a := by
  rcases h with ⟨h1, _, h3⟩ | ⟨h1, h2, _⟩
  · exact .inl ⟨h1, fun h => (by cases h), h3⟩
  · exact .inr ⟨h1, h2, fun h => (by cases h)⟩
/-- Whatever order is picked. -/
def anyS (P : Program) (md : Region.Mode) (ops : Array Oper) (Q : Exit → Act → World → Prop) (S : Nat → World → Prop) (eff : Nat → Bool) : Nat → Array Bool → Nat → Act → Prop
  | 0, l, k, a => Region.ready md ops l = [] ∧ ∀ w, S k w → Q .normal a w
  | n + 1, l, k, a => (Region.ready md ops l = [] → ∀ w, S k w → Q .normal a w) ∧
    ∀ i ∈ Region.ready md ops l, ∃ o v, ops[i]? = some o ∧ Stab P ops S (eff i) k o v a ∧ anyS P md ops Q S eff n (l.setIfInBounds i true) (nextK (eff i) k) (a.put o.dst v)
theorem wpAny_of_anyS : ∀ (n : Nat) (l : Array Bool) (k : Nat) (a : Act) (w : World), anyS P md ops Q S eff n l k a → S k w → wpAny P md ops Q n l a w
  | 0, _, _, _, w, h, hS => ⟨h.1, h.2 w hS⟩
  | n + 1, l, k, a, w, h, hS => ⟨fun h0 => h.1 h0 w hS, fun i hi => by
    obtain ⟨o, v, ho, hst, hn⟩ := h.2 i hi
    unfold wpOp
    simp only [ho]
    rcases hst with ⟨hw, hE, hT⟩ | ⟨hw, rfl, hE⟩
    · rw [if_pos hw]
      have hR : RunsTo P (S k) (S (nextK (eff i) k)) (execOp a.eval o) v := by
        cases hb : eff i
        · exact hT hb k
        · exact hE hb
      refine .inl ?_
      unfold Oper.wp
      rcases hR w hS with ⟨w', hr, hT'⟩ | ⟨w', rfl, hr, hT'⟩ | ⟨f, args, w1, hr, hc⟩
      · rw [hr]; exact wpAny_of_anyS n _ _ _ w' hn hT'
      · rw [hr]; exact wpAny_of_anyS n _ _ _ w' hn hT'
      · rw [hr, Oper.upon_enter]
        refine hc.mono fun e w' hh => ?_
        obtain ⟨rfl, hT'⟩ := hh
        exact wpAny_of_anyS n _ _ _ w' hn hT'
    · rw [if_neg (by rw [hw]; simp)]
      refine wpAny_of_anyS n _ _ _ w hn ?_
      cases hb : eff i
      · exact hS
      · exact hE hb w hS⟩
theorem anyS_first {i : Nat} {oi : Oper} {v : Value} (hi : ops[i]? = some oi) (hs : ∀ (j : Nat) (o : Oper) cs b, ops[j]? = some o → o.op ≠ .select cs b) :
    ∀ (n : Nat) (l : Array Bool) (k : Nat) (a : Act),
      (∀ j oj, ops[j]? = some oj → j ≠ i → l.getD j true = false → (∀ e ∈ oj.after, Region.binds md e = true → e.on ≠ i) → oi.apart ops oj = true) →
      (eff i = true → ∀ j oj, ops[j]? = some oj → eff j = true → j ≠ i → l.getD j true = false → ∃ e ∈ oj.after, Region.binds md e = true ∧ eff e.on = true ∧ l.getD e.on true = false) →
      i ∈ Region.ready md ops l → Stab P ops S (eff i) k oi v a →
      anyS P md ops Q S eff n (l.setIfInBounds i true) (nextK (eff i) k) (a.put oi.dst v) → anyS P md ops Q S eff (n + 1) l k a := by
  intro n
  induction n with
  | zero =>
    intro l k a _ _ hr hy H
    refine ⟨fun h => (by rw [h] at hr; cases hr), fun j hj => ?_⟩
    by_cases hji : j = i
    · subst hji; exact ⟨oi, v, hi, hy, H⟩
    · have := ready_mono hj hji
      rw [H.1] at this
      cases this
  | succ n ih =>
    intro l k a hfree hch hr hy H
    refine ⟨fun h => (by rw [h] at hr; cases hr), fun j hj => ?_⟩
    by_cases hji : j = i
    · subst hji; exact ⟨oi, v, hi, hy, H⟩
    · obtain ⟨oj, u, hoj, hsj, hrest⟩ := H.2 j (ready_mono hj hji)
      obtain ⟨hjun, oj', hoj', hall⟩ := mem_ready.1 hj
      obtain rfl : oj = oj' := by rw [hoj] at hoj'; exact Option.some.inj hoj'
      have hnot : ∀ e ∈ oj.after, Region.binds md e = true → e.on ≠ i := fun e he hb heq => by
        have h1 := hall e he hb
        have h0 := (mem_ready.1 hr).1
        rw [heq] at h1
        rcases Nat.lt_or_ge i l.size with h' | h'
        · simp [h'] at h0 h1; rw [h0] at h1; cases h1
        · simp [Array.getElem?_eq_none h'] at h1
      obtain ⟨h1, h2, h3⟩ := Oper.apart_spec (hfree j oj hoj hji hjun hnot)
      have hej : eff i = true → eff j = false := fun hei => by
        cases hb : eff j
        · rfl
        · obtain ⟨e, he, hbd, _, hun⟩ := hch hei j oj hoj hb hji hjun
          have h1 := hall e he hbd
          rcases Nat.lt_or_ge e.on l.size with h' | h'
          · simp [h'] at hun h1; rw [hun] at h1; cases h1
          · simp [Array.getElem?_eq_none h'] at h1
      have hsj' : Stab P ops S (eff j) (nextK (eff i) k) oj u a :=
        hsj.same (execOp_put oj (fun cs b => hs j oj cs b hoj) a oi.dst v h1).symm (wanted_put oj a oi.dst v h1).symm
      have hsj2 : Stab P ops S (eff j) k oj u a := by
        have h := hsj'
        cases hb : eff i
        · rw [hb] at h; exact h
        · rw [hej hb] at h ⊢; exact h.phase
      refine ⟨oj, u, hoj, hsj2, ih (l.setIfInBounds j true) (nextK (eff j) k) (a.put oj.dst u) ?_ ?_ (ready_mono hr (Ne.symm hji)) ?_ ?_⟩
      · intro m om hm hmi hun hno
        refine hfree m om hm hmi ?_ hno
        by_cases hjm : j = m
        · subst hjm; exact hjun
        · rw [getD_set_ne true hjm] at hun; exact hun
      · intro hei m om hm hem hmi hun
        have hun' : l.getD m true = false := by
          by_cases hjm : j = m
          · subst hjm; exact hjun
          · rw [getD_set_ne true hjm] at hun; exact hun
        obtain ⟨e, he, hbd, hee, hu⟩ := hch hei m om hm hem hmi hun'
        refine ⟨e, he, hbd, hee, ?_⟩
        rw [getD_set_ne true (fun h => by rw [← h, hej hei] at hee; cases hee)]
        exact hu
      · have h := hy.same (execOp_put oi (fun cs b => hs i oi cs b hi) a oj.dst u h3) (wanted_put oi a oj.dst u h3)
        cases hb : eff i
        · rw [hb] at h; exact h.phase
        · rw [hej hb]; rw [hb] at h; exact h
      · rw [Array.setIfInBounds_comm _ _ hji, ← Act.put_comm a v u h2]
        have e : nextK (eff i) (nextK (eff j) k) = nextK (eff j) (nextK (eff i) k) := by cases eff i <;> cases eff j <;> rfl
        rw [e]
        exact hrest
/-- The walk in the text's order. -/
def stW (P : Program) (ops : Array Oper) (Q : Exit → Act → World → Prop) (S : Nat → World → Prop) (eff : Nat → Bool) : List Oper → Nat → Nat → Act → Prop
  | [], _, k, a => ∀ w, S k w → Q .normal a w
  | o :: r, i, k, a => ∃ v, Stab P ops S (eff i) k o v a ∧ stW P ops Q S eff r (i + 1) (nextK (eff i) k) (a.put o.dst v)
/-- It may be taken, by the region's edges alone. -/
def stB (md : Region.Mode) (ops : Array Oper) (eff : Nat → Bool) : Nat → Nat → Array Bool → Bool
  | 0, _, l => Region.ready md ops l == []
  | n + 1, i, l => Region.free md ops l i && (Region.ready md ops l).contains i &&
    (!eff i || (List.range ops.size).all fun j => !eff j || j == i || l.getD j true || match ops[j]? with | some oj => oj.after.any (fun e => Region.binds md e && eff e.on && !l.getD e.on true) | none => true) &&
    stB md ops eff n (i + 1) (l.setIfInBounds i true)
theorem stW_sound (hs : Region.noSelect ops = true) : ∀ (r : List Oper) (i : Nat) (l : Array Bool) (k : Nat) (a : Act), (∀ j, r[j]? = ops[i + j]?) → stB md ops eff r.length i l = true →
    stW P ops Q S eff r i k a → anyS P md ops Q S eff r.length l k a
  | [], i, l, k, a, _, hb, h => ⟨by simpa [stB] using hb, h⟩
  | o :: r, i, l, k, a, hr, hb, h => by
    simp only [List.length_cons, stB, Bool.and_eq_true] at hb
    obtain ⟨⟨⟨hb1, hb2⟩, hb3⟩, hb4⟩ := hb
    obtain ⟨v, hst, hrest⟩ := h
    have hi : ops[i]? = some o := by have := hr 0; simpa using this.symm
    refine anyS_first hi (Region.noSelect_spec hs) _ _ _ _ (Region.free_spec hi hb1) ?_ (by simpa using hb2) hst
      (stW_sound hs r (i + 1) _ _ _ (fun j => by have := hr (j + 1); rw [List.getElem?_cons_succ] at this; rw [this, show i + (j + 1) = i + 1 + j by omega]) hb4 hrest)
    intro hei j oj hj hej hne hun
    simp only [hei, Bool.not_true, Bool.false_or, List.all_eq_true, List.mem_range] at hb3
    have h1 := hb3 j (Array.getElem?_eq_some_iff.1 hj).1
    simp only [hej, hj, Bool.not_true, Bool.false_or, Bool.or_eq_true, beq_iff_eq, hne, hun, Bool.false_eq_true, false_or] at h1
    obtain ⟨e, he, hb⟩ := Array.any_eq_true'.1 h1
    simp only [Bool.and_eq_true, Bool.not_eq_true'] at hb
    exact ⟨e, he, hb.1.1, hb.1.2, hb.2⟩
/-- The beginning: S 0 holds behind the draw. -/
theorem st_start {id : Nat} {a : Act} {w : World} (S : Nat → World → Prop) (eff : Nat → Bool) (hm : P.follows .mixedOrders = true)
    (hb : (Region.noSelect ops && stB .any ops eff ops.toList.length 0 (Array.replicate ops.size false)) = true) (hS : S 0 w.drew) (h : stW P ops Q S eff ops.toList 0 0 a) : (Code.region id ops true).wp P Q a w := by
  simp only [Bool.and_eq_true] at hb
  refine wp_region_any hm ?_
  have := wpAny_of_anyS _ _ _ _ w.drew (stW_sound hb.1 ops.toList 0 _ 0 a (fun j => by simp) hb.2 h) hS
  rw [Array.length_toList] at this
  exact this
variable {o : Oper} {r : List Oper} {i k : Nat} {a a' : Act} {n : Tmp} {v : Value}
/-- The guard is off. -/
theorem st_off (hN : o.dst = some n) (hw : Region.wanted o (yielded ops a.tmps) = false) (he : eff i = false) (ha : a.put (some n) undef = a') (h : stW P ops Q S eff r (i + 1) k a') : stW P ops Q S eff (o :: r) i k a :=
  ⟨undef, .inr ⟨hw, rfl, fun h => by rw [he] at h; cases h⟩, by rw [hN, ha, he]; exact h⟩
/-- It yields, and leaves the world. -/
theorem st_y (hN : o.dst = some n) (hw : Region.wanted o (yielded ops a.tmps) = true) (he : eff i = false) (hr : ∀ k w', S k w' → (execOp a.eval o).run P w' = .ok (.value v) w') (ha : a.put (some n) v = a') (h : stW P ops Q S eff r (i + 1) k a') :
    stW P ops Q S eff (o :: r) i k a :=
  ⟨v, .inl ⟨hw, fun h => (by rw [he] at h; cases h), fun _ k w' hS => .inl ⟨w', hr k w' hS, hS⟩⟩, by rw [hN, ha, he]; exact h⟩
/-- It yields, and leaves another world. -/
theorem st_v (f : World → World) (hN : o.dst = some n) (hw : Region.wanted o (yielded ops a.tmps) = true) (he : eff i = false) (hr : ∀ k w', S k w' → (execOp a.eval o).run P w' = .ok (.value v) (f w') ∧ S k (f w')) (ha : a.put (some n) v = a') (h : stW P ops Q S eff r (i + 1) k a') :
    stW P ops Q S eff (o :: r) i k a :=
  ⟨v, .inl ⟨hw, fun h => (by rw [he] at h; cases h), fun _ k w' hS => .inl ⟨f w', hr k w' hS⟩⟩, by rw [hN, ha, he]; exact h⟩
theorem st_enters {f : FuncId} {fn : Func} (hf : P.funcs[f]? = some fn) (hname : (fn.name == "runtime.NumGoroutine") = false) (hb : fn.body.isSome = true) (args : Array Value) (w : World) : (callFunc f args).run P w = .ok (.enter f args) w := by
  have h1 : fn.name ≠ "runtime.NumGoroutine" := by simpa using hname
  obtain ⟨b, hb⟩ := Option.isSome_iff_exists.1 hb
  simp [callFunc, hf, h1, hb]
theorem exec_call {f : FuncId} {fn : Func} {ars : Array Operand} {ts : Array TypeId} (hf : P.funcs[f]? = some fn) (hname : (fn.name == "runtime.NumGoroutine") = false) (hb : fn.body.isSome = true) (args : Array Value)
    (hop : o.op = .call { callee := .value (.func f), args := ars, argTypes := ts }) (hargs : ars.map a.eval = args) (w : World) : (execOp a.eval o).run P w = .ok (.enter f args) w := by
  have he := st_enters hf hname hb args w
  unfold execOp
  simp [hop, resolve, Deferred.ofValue, invoke, Act.eval, hargs, he]
/-- A call of a Go function, stable. -/
theorem st_call {f : FuncId} {fn : Func} {ars : Array Operand} {ts : Array TypeId} (hf : P.funcs[f]? = some fn) (hname : (fn.name == "runtime.NumGoroutine") = false) (hb : fn.body.isSome = true) (args : Array Value)
    (hw : Region.wanted o (yielded ops a.tmps) = true) (he : eff i = false) (hN : o.dst = some n) (hop : o.op = .call { callee := .value (.func f), args := ars, argTypes := ts }) (hargs : ars.map a.eval = args)
    (hc : ∀ k w', S k w' → Calls P f args w' fun e w'' => e = .returned v ∧ S k w'') (ha : a.put (some n) v = a') (h : stW P ops Q S eff r (i + 1) k a') : stW P ops Q S eff (o :: r) i k a :=
  ⟨v, .inl ⟨hw, fun h => (by rw [he] at h; cases h), fun _ k w' hS => .inr (.inr ⟨f, args, w', exec_call hf hname hb args hop hargs w', hc k w' hS⟩)⟩, by rw [hN, ha, he]; exact h⟩
/-- A call that is an effect. -/
theorem st_eff {f : FuncId} {fn : Func} {ars : Array Operand} {ts : Array TypeId} (hf : P.funcs[f]? = some fn) (hname : (fn.name == "runtime.NumGoroutine") = false) (hb : fn.body.isSome = true) (args : Array Value)
    (hw : Region.wanted o (yielded ops a.tmps) = true) (he : eff i = true) (hop : o.op = .call { callee := .value (.func f), args := ars, argTypes := ts }) (hargs : ars.map a.eval = args)
    (hc : ∀ w', S k w' → Calls P f args w' fun e w'' => e = .returned v ∧ S (k + 1) w'') (ha : a.put o.dst v = a') (h : stW P ops Q S eff r (i + 1) (k + 1) a') : stW P ops Q S eff (o :: r) i k a :=
  ⟨v, .inl ⟨hw, fun _ w' hS => .inr (.inr ⟨f, args, w', exec_call hf hname hb args hop hargs w', hc w' hS⟩), fun h => (by rw [he] at h; cases h)⟩, by rw [ha, he]; exact h⟩
/-- A store, an effect. -/
theorem st_store (f : World → World) (hN : o.dst = none) (hw : Region.wanted o (yielded ops a.tmps) = true) (he : eff i = true) (hr : ∀ w', S k w' → (execOp a.eval o).run P w' = .ok .skip (f w') ∧ S (k + 1) (f w')) (h : stW P ops Q S eff r (i + 1) (k + 1) a) :
    stW P ops Q S eff (o :: r) i k a :=
  ⟨undef, .inl ⟨hw, fun _ w' hS => .inr (.inl ⟨f w', rfl, hr w' hS⟩), fun h => (by rw [he] at h; cases h)⟩, by rw [hN, he]; exact h⟩
theorem st_end (h : ∀ w, S k w → Q .normal a w) : stW P ops Q S eff [] i k a := h
end
end Go.Proofs.YtjcpgjnogcmalaaDoor

/-! A plain region, walked step by step. -/
namespace Go.Proofs.YtjcpgjnogcmalaaDoor
set_option linter.unusedVariables false
set_option linter.unusedSimpArgs false
section
variable {P : Program} {ops : Array Oper} {Q : Exit → Act → World → Prop} {o : Oper} {r : List Oper} {a a' : Act} {n : Tmp} {v : Value} {w w1 : World}
/-- A step at large. -/
theorem pl_step (hw : Region.wanted o (yielded ops a.tmps) = true) (h : Oper.wp P o a w (wpList P ops Q r) Q) : wpList P ops Q (o :: r) a w := by
  unfold wpList
  rw [if_pos hw]
  exact .inl h
/-- The guard is off. -/
theorem pl_off (hN : o.dst = some n) (hw : Region.wanted o (yielded ops a.tmps) = false) (ha : a.put (some n) undef = a') (h : wpList P ops Q r a' w) : wpList P ops Q (o :: r) a w := by
  unfold wpList
  rw [hw, hN, ha]
  exact h
/-- It yields, and leaves the world, or another one. -/
theorem pl_y (hN : o.dst = some n) (hw : Region.wanted o (yielded ops a.tmps) = true) (hr : (execOp a.eval o).run P w = .ok (.value v) w) (ha : a.put (some n) v = a') (h : wpList P ops Q r a' w) : wpList P ops Q (o :: r) a w := by
  refine pl_step hw ?_
  unfold Oper.wp
  rw [hr, Oper.upon_value, hN, ha]
  exact h
theorem pl_v (hN : o.dst = some n) (hw : Region.wanted o (yielded ops a.tmps) = true) (hr : (execOp a.eval o).run P w = .ok (.value v) w1) (ha : a.put (some n) v = a') (h : wpList P ops Q r a' w1) : wpList P ops Q (o :: r) a w := by
  refine pl_step hw ?_
  unfold Oper.wp
  rw [hr, Oper.upon_value, hN, ha]
  exact h
theorem pl_store (hw : Region.wanted o (yielded ops a.tmps) = true) (hN : o.dst = none) (hr : (execOp a.eval o).run P w = .ok .skip w1) (h : wpList P ops Q r a w1) : wpList P ops Q (o :: r) a w := by
  refine pl_step hw ?_
  unfold Oper.wp
  rw [hr, Oper.upon_skip, hN]
  exact h
theorem pl_call {f : FuncId} {fn : Func} {ars : Array Operand} {ts : Array TypeId} (hf : P.funcs[f]? = some fn) (hname : (fn.name == "runtime.NumGoroutine") = false) (hb : fn.body.isSome = true) (args : Array Value)
    (hw : Region.wanted o (yielded ops a.tmps) = true) (hN : o.dst = some n) (hop : o.op = .call { callee := .value (.func f), args := ars, argTypes := ts }) (hargs : ars.map a.eval = args)
    (h : Calls P f args w fun e w' => ∃ v a', e = .returned v ∧ a.put (some n) v = a' ∧ wpList P ops Q r a' w') : wpList P ops Q (o :: r) a w := by
  refine pl_step hw ?_
  unfold Oper.wp
  rw [exec_call hf hname hb args hop hargs w, Oper.upon_enter]
  refine h.mono fun e w'' hh => ?_
  obtain ⟨v, a', rfl, ha, hk⟩ := hh
  rw [hN]
  show wpList P ops Q r (a.put (some n) v) w''
  rw [ha]
  exact hk
/-- Operations that only hand values on, or whose guards are off. -/
def deadStep (ops : Array Oper) (o : Oper) (a : Act) : Option Act :=
  match Region.wanted o (yielded ops a.tmps) with
  | false => some (a.put o.dst undef)
  | true => match o.op with
    | .move x => some (a.put o.dst (a.eval x))
    | .assign x => some (a.put o.dst (a.eval x))
    | .pick c x y => match a.eval c with
      | .bool true => some (a.put o.dst (a.eval x))
      | .bool false => some (a.put o.dst (a.eval y))
      | _ => none
    | _ => none
def deadRun (ops : Array Oper) : List Oper → Act → Option Act
  | [], a => some a
  | o :: r, a => match deadStep ops o a with
    | some a' => deadRun ops r a'
    | none => none
theorem deadStep_spec (h : deadStep ops o a = some a') : (Region.wanted o (yielded ops a.tmps) = false ∧ a' = a.put o.dst undef) ∨ (Region.wanted o (yielded ops a.tmps) = true ∧ ∃ v, a' = a.put o.dst v ∧ ∀ w, (execOp a.eval o).run P w = .ok (.value v) w) := by
  unfold deadStep at h
  cases hw : Region.wanted o (yielded ops a.tmps)
  · rw [hw] at h
    exact .inl ⟨rfl, (Option.some.inj h).symm⟩
  · rw [hw] at h
    refine .inr ⟨rfl, ?_⟩
    simp only at h
    split at h
    · rename_i x hx
      exact ⟨_, (Option.some.inj h).symm, fun w => by simp [execOp, hx]⟩
    · rename_i x hx
      exact ⟨_, (Option.some.inj h).symm, fun w => by simp [execOp, hx]⟩
    · rename_i c x y hx
      split at h
      · rename_i hc
        exact ⟨_, (Option.some.inj h).symm, fun w => by simp [execOp, hx, hc, asBool, Result.andThen]⟩
      · rename_i hc
        exact ⟨_, (Option.some.inj h).symm, fun w => by simp [execOp, hx, hc, asBool, Result.andThen]⟩
      · cases h
    · cases h
theorem pl_dead : ∀ (r : List Oper) (a : Act), deadRun ops r a = some a' → Q .normal a' w → wpList P ops Q r a w
  | [], a, h, k => by
    obtain rfl := Option.some.inj h
    exact k
  | o :: r, a, h, k => by
    unfold deadRun at h
    cases hs : deadStep ops o a with
    | none => rw [hs] at h; cases h
    | some a1 =>
      rw [hs] at h
      unfold wpList
      rcases deadStep_spec (P := P) hs with ⟨hw, rfl⟩ | ⟨hw, v, rfl, hr⟩
      · rw [hw]; exact pl_dead r _ h k
      · rw [if_pos hw]
        refine .inl ?_
        unfold Oper.wp
        rw [hr]
        exact pl_dead r _ h k
/-- The rest hands on; what it leaves in one slot. -/
theorem pl_deadQ (s : Tmp) (x : Value) (h : ((deadRun ops r a).bind fun a' => some (a'.tmps[s]?, a'.defers.isEmpty)) = some (some x, true)) (k : ∀ a' : Act, a'.tmps[s]? = some x → a'.tmps.getD s undef = x → a'.defers = [] → Q .normal a' w) : wpList P ops Q r a w := by
  cases hd : deadRun ops r a with
  | none => rw [hd] at h; cases h
  | some a' =>
    rw [hd] at h
    simp only [Option.bind_some, Option.some.injEq, Prod.mk.injEq, List.isEmpty_iff] at h
    exact pl_dead r a hd (k a' h.1 (by rw [Array.getD_eq_getD_getElem?, h.1]; rfl) h.2)
end
end Go.Proofs.YtjcpgjnogcmalaaDoor

/-! The tree of orders again, where three operations may stand beside each other. A region that draws its order, walked along a tree of orders: operations that yield whatever the order are taken first, the others come one at a time, or two beside each other (both orders are walked). -/
namespace Go.Proofs.YtjcpgjnogcmalaaDoor.Three
set_option linter.unusedVariables false
set_option linter.unusedSimpArgs false
inductive Tr where
  | nil
  | y (i : Nat) (r : Tr)
  | e (i : Nat) (r : Tr)
  | two (i j : Nat) (r s : Tr)
  | three (i j k : Nat) (r s t : Tr)
def Tr.len : Tr → Nat
  | .nil => 0
  | .y _ r => r.len + 1
  | .e _ r => r.len + 1
  | .two _ _ r _ => r.len + 1
  | .three _ _ _ r _ _ => r.len + 1
section
variable {P : Program} {ops : Array Oper} {Q : Exit → Act → World → Prop} {S : World → Prop} {md : Region.Mode}
/-- z waits for j, by the region's edges. -/
def waitsFor (md : Region.Mode) (ops : Array Oper) : Nat → Nat → Nat → Bool
  | 0, _, _ => false
  | n + 1, z, j => match ops[z]? with
    | some o => o.after.any fun e => Region.binds md e && (e.on == j || waitsFor md ops n e.on j)
    | none => false
/-- z waits for all others. -/
def lastOp (md : Region.Mode) (ops : Array Oper) (z : Nat) : Bool := (List.range ops.size).all fun j => j == z || waitsFor md ops ops.size z j
/-- Whatever was done waited for what it had to. -/
def ShutL (md : Region.Mode) (ops : Array Oper) (l : Array Bool) : Prop := ∀ k o, l.getD k false = true → ops[k]? = some o → ∀ e ∈ o.after, Region.binds md e = true → l.getD e.on false = true
theorem waits_done {l : Array Bool} (hl : ShutL md ops l) : ∀ (n z j : Nat) (o : Oper), ops[z]? = some o → (∀ e ∈ o.after, Region.binds md e = true → l.getD e.on false = true) → waitsFor md ops n z j = true → l.getD j false = true
  | 0, _, _, _, _, _, h => by simp [waitsFor] at h
  | n + 1, z, j, o, ho, hz, h => by
    unfold waitsFor at h
    rw [ho] at h
    obtain ⟨e, he, hb⟩ := Array.any_eq_true'.1 h
    simp only [Bool.and_eq_true, Bool.or_eq_true, beq_iff_eq] at hb
    have h1 := hz e he hb.1
    rcases hb.2 with rfl | h2
    · exact h1
    · cases hk : ops[e.on]? with
      | none =>
        exfalso
        cases n with
        | zero => simp [waitsFor] at h2
        | succ n => unfold waitsFor at h2; rw [hk] at h2; cases h2
      | some o' => exact waits_done hl n e.on j o' hk (hl e.on o' h1 hk) h2
theorem getD_set_false {l : Array Bool} {i k : Nat} (h : (l.setIfInBounds i true).getD k false = true) : l.getD k false = true ∨ k = i := by
  by_cases e : i = k
  · exact .inr e.symm
  · left
    rcases Nat.lt_or_ge k l.size with h' | h'
    · simp [Array.getElem?_setIfInBounds, e, h'] at h ⊢; exact h
    · simp [h'] at h
theorem ShutL.step {l : Array Bool} (hl : ShutL md ops l) {i : Nat} (hi : i ∈ Region.ready md ops l) : ShutL md ops (l.setIfInBounds i true) := by
  intro k o hk ho e he hb
  obtain ⟨_, oi, hoi, hall⟩ := mem_ready.1 hi
  rcases getD_set_false hk with h | rfl
  · exact getD_set_true (hl k o h ho e he hb)
  · rw [hoi] at ho
    obtain rfl := Option.some.inj ho
    exact getD_set_true (hall e he hb)
theorem ShutL.start (n : Nat) : ShutL md ops (Array.replicate n false) := by
  intro k o hk
  rcases Nat.lt_or_ge k n with h | h <;> simp [h] at hk
/-- If z may come up, all others have. -/
theorem last_done {l : Array Bool} (hl : ShutL md ops l) {z j : Nat} (hz : z ∈ Region.ready md ops l) (h : lastOp md ops z = true) (hj : j < ops.size) (hne : j ≠ z) : l.getD j false = true := by
  obtain ⟨_, o, ho, hall⟩ := mem_ready.1 hz
  unfold lastOp at h
  have := List.all_eq_true.1 h j (List.mem_range.2 hj)
  simp only [Bool.or_eq_true, beq_iff_eq] at this
  exact waits_done hl _ z j o ho hall (this.resolve_left hne)
/-- wpAnyH, where the last of all need not keep S. -/
def wpAnyZ (P : Program) (md : Region.Mode) (ops : Array Oper) (Q : Exit → Act → World → Prop) (S : World → Prop) : Nat → Array Bool → Act → World → Prop
  | 0, listed, a, w => Region.ready md ops listed = [] ∧ Q .normal a w
  | fuel + 1, listed, a, w =>
    (Region.ready md ops listed = [] → Q .normal a w) ∧
    ∀ i ∈ Region.ready md ops listed, wpOp P ops Q i (fun a' w' => (S w' ∨ lastOp md ops i = true) ∧ wpAnyZ P md ops Q S fuel (listed.setIfInBounds i true) a' w') a w
theorem wpAny_of_Z : ∀ (fuel : Nat) (listed : Array Bool) (a : Act) (w : World), wpAnyZ P md ops Q S fuel listed a w → wpAny P md ops Q fuel listed a w
  | 0, _, _, _, h => h
  | fuel + 1, _, _, _, h => ⟨h.1, fun i hi => wpOp_mono (fun a' w' h' => wpAny_of_Z fuel _ a' w' h'.2) (h.2 i hi)⟩
theorem wpAnyZ_first {i : Nat} {oi : Oper} {v : Value} (hi : ops[i]? = some oi) (hsel : ∀ (j : Nat) (o : Oper) cs b, ops[j]? = some o → o.op ≠ .select cs b)
    (hQ : ∀ c a w, Q (.panic c) (a.put oi.dst v) w → Q (.panic c) a w) :
    ∀ (fuel : Nat) (listed : Array Bool) (a : Act) (w : World), ShutL md ops listed →
      (∀ j oj, ops[j]? = some oj → j ≠ i → listed.getD j true = false → (∀ e ∈ oj.after, Region.binds md e = true → e.on ≠ i) → oi.apart ops oj = true) →
      i ∈ Region.ready md ops listed → YieldsIf P ops S oi v a → S w →
      wpAnyZ P md ops Q S fuel (listed.setIfInBounds i true) (a.put oi.dst v) w → wpAnyZ P md ops Q S (fuel + 1) listed a w := by
  intro fuel
  induction fuel with
  | zero =>
    intro listed a w hsh hfree hr hy hS H
    refine ⟨fun h => (by rw [h] at hr; cases hr), fun j hj => ?_⟩
    by_cases hji : j = i
    · subst hji; exact hy.wpOp hi hS ⟨.inl hS, H⟩
    · have := ready_mono hj hji
      rw [H.1] at this
      cases this
  | succ fuel ih =>
    intro listed a w hsh hfree hr hy hS H
    refine ⟨fun h => (by rw [h] at hr; cases hr), fun j hj => ?_⟩
    by_cases hji : j = i
    · subst hji; exact hy.wpOp hi hS ⟨.inl hS, H⟩
    · have h1 := H.2 j (ready_mono hj hji)
      obtain ⟨hjun, oj, hoj, hall⟩ := mem_ready.1 hj
      have hiun := (mem_ready.1 hr).1
      have hnot : ∀ e ∈ oj.after, Region.binds md e = true → e.on ≠ i := fun e he hb heq => by
        have h1 := hall e he hb
        have h0 := (mem_ready.1 hr).1
        rw [heq] at h1
        rcases Nat.lt_or_ge i listed.size with h' | h'
        · simp [h'] at h0 h1; rw [h0] at h1; cases h1
        · simp [Array.getElem?_eq_none h'] at h1
      have hnl : ¬ lastOp md ops j = true := fun hl => by
        have h2 := last_done hsh hj hl (Array.getElem?_eq_some_iff.1 hi).1 (Ne.symm hji)
        rcases Nat.lt_or_ge i listed.size with h' | h'
        · simp [h'] at hiun h2; rw [hiun] at h2; cases h2
        · simp [h'] at h2
      have h2 := wpOp_putIf hoj (hfree j oj hoj hji hjun hnot) (fun cs b => hsel i oi cs b hi) (fun cs b => hsel j oj cs b hoj) hQ hy h1
      have hfree' : ∀ k ok, ops[k]? = some ok → k ≠ i → (listed.setIfInBounds j true).getD k true = false →
          (∀ e ∈ ok.after, Region.binds md e = true → e.on ≠ i) → oi.apart ops ok = true := fun k ok hk hki hun hno => by
        refine hfree k ok hk hki ?_ hno
        by_cases hjk : j = k
        · subst hjk; exact hjun
        · rw [getD_set_ne true hjk] at hun; exact hun
      refine wpOp_mono (fun a' w' h3 => ⟨.inl (h3.2.1.resolve_right hnl), ih (listed.setIfInBounds j true) a' w' (hsh.step hj) hfree' (ready_mono hr (Ne.symm hji)) h3.1 (h3.2.1.resolve_right hnl) ?_⟩) h2
      rw [Array.setIfInBounds_comm _ _ hji]
      exact h3.2.2
def wpTr (P : Program) (ops : Array Oper) (Q : Exit → Act → World → Prop) (S : World → Prop) : Tr → Act → World → Prop
  | .nil, a, w => Q .normal a w
  | .y i r, a, w => ∃ o v, ops[i]? = some o ∧ YieldsIf P ops S o v a ∧ wpTr P ops Q S r (a.put o.dst v) w
  | .e i r, a, w => wpOp P ops Q i (fun a' w' => (S w' ∨ (r = .nil ∧ lastOp .any ops i = true)) ∧ wpTr P ops Q S r a' w') a w
  | .two i j r s, a, w => wpOp P ops Q i (fun a' w' => (S w' ∨ (r = .nil ∧ lastOp .any ops i = true)) ∧ wpTr P ops Q S r a' w') a w ∧ wpOp P ops Q j (fun a' w' => (S w' ∨ (s = .nil ∧ lastOp .any ops j = true)) ∧ wpTr P ops Q S s a' w') a w
  | .three i j k r s t, a, w => wpOp P ops Q i (fun a' w' => (S w' ∨ (r = .nil ∧ lastOp .any ops i = true)) ∧ wpTr P ops Q S r a' w') a w ∧ wpOp P ops Q j (fun a' w' => (S w' ∨ (s = .nil ∧ lastOp .any ops j = true)) ∧ wpTr P ops Q S s a' w') a w ∧ wpOp P ops Q k (fun a' w' => (S w' ∨ (t = .nil ∧ lastOp .any ops k = true)) ∧ wpTr P ops Q S t a' w') a w
def ordT (md : Region.Mode) (ops : Array Oper) : Array Bool → Tr → Bool
  | l, .nil => Region.ready md ops l == []
  | l, .y i r => Region.free md ops l i && (Region.ready md ops l).contains i && ordT md ops (l.setIfInBounds i true) r
  | l, .e i r => (Region.ready md ops l == [i]) && ordT md ops (l.setIfInBounds i true) r
  | l, .two i j r s => (Region.ready md ops l == [i, j]) && ordT md ops (l.setIfInBounds i true) r && ordT md ops (l.setIfInBounds j true) s && (r.len == s.len)
  | l, .three i j k r s t => (Region.ready md ops l == [i, j, k]) && ordT md ops (l.setIfInBounds i true) r && ordT md ops (l.setIfInBounds j true) s && ordT md ops (l.setIfInBounds k true) t && (r.len == s.len) && (r.len == t.len)
theorem wpAnyZ_all {rs : List Nat} {fuel : Nat} {listed : Array Bool} {a : Act} {w : World} (hr : Region.ready md ops listed = rs) (hne : rs ≠ [])
    (h : ∀ i ∈ rs, wpOp P ops Q i (fun a' w' => (S w' ∨ lastOp md ops i = true) ∧ wpAnyZ P md ops Q S fuel (listed.setIfInBounds i true) a' w') a w) : wpAnyZ P md ops Q S (fuel + 1) listed a w :=
  ⟨fun h0 => absurd (hr ▸ h0) hne, hr ▸ h⟩
theorem wpAnyZ_done : ∀ {listed : Array Bool} {a : Act} {w : World}, Region.ready md ops listed = [] → Q .normal a w → ∀ n, wpAnyZ P md ops Q S n listed a w
  | _, _, _, hr, h, 0 => ⟨hr, h⟩
  | _, _, _, hr, h, n + 1 => ⟨fun _ => h, fun i hi => (by rw [hr] at hi; cases hi)⟩
theorem wpAnyZ_tr (hs : Region.noSelect ops = true) (hQ : ∀ c a d v w, Q (.panic c) (a.put d v) w → Q (.panic c) a w) :
    ∀ (t : Tr) (l : Array Bool) (a : Act) (w : World), ShutL .any ops l → ordT .any ops l t = true → (S w ∨ t = .nil) → wpTr P ops Q S t a w → wpAnyZ P .any ops Q S t.len l a w
  | .nil, l, a, w, _, hb, _, h => wpAnyZ_done (by simpa [ordT] using hb) h 0
  | .y i r, l, a, w, hl, hb, hS, h => by
    simp only [ordT, Bool.and_eq_true] at hb
    obtain ⟨o, v, hi, hy, hr⟩ := h
    have hS := hS.resolve_right (by simp)
    have hm : i ∈ Region.ready .any ops l := by simpa using hb.1.2
    exact wpAnyZ_first hi (Region.noSelect_spec hs) (fun c a w => hQ c a o.dst v w) _ l a w hl (Region.free_spec hi hb.1.1) hm hy hS (wpAnyZ_tr hs hQ r _ _ _ (hl.step hm) hb.2 (.inl hS) hr)
  | .e i r, l, a, w, hl, hb, hS, h => by
    simp only [ordT, Bool.and_eq_true, beq_iff_eq] at hb
    have hm : i ∈ Region.ready .any ops l := by rw [hb.1]; simp
    refine wpAnyZ_all hb.1 (by simp) (fun j hj => ?_)
    obtain rfl : j = i := by simpa using hj
    exact wpOp_mono (fun a' w' hk => ⟨hk.1.imp id And.right, wpAnyZ_tr hs hQ r _ _ _ (hl.step hm) hb.2 (hk.1.imp id And.left) hk.2⟩) h
  | .two i j r s, l, a, w, hl, hb, hS, h => by
    simp only [ordT, Bool.and_eq_true, beq_iff_eq] at hb
    obtain ⟨⟨⟨hb1, hb2⟩, hb3⟩, hb4⟩ := hb
    have hm1 : i ∈ Region.ready .any ops l := by rw [hb1]; simp
    have hm2 : j ∈ Region.ready .any ops l := by rw [hb1]; simp
    refine wpAnyZ_all hb1 (by simp) (fun m hm => ?_)
    rcases (by simpa using hm : m = i ∨ m = j) with rfl | rfl
    · exact wpOp_mono (fun a' w' hk => ⟨hk.1.imp id And.right, wpAnyZ_tr hs hQ r _ _ _ (hl.step hm1) hb2 (hk.1.imp id And.left) hk.2⟩) h.1
    · show wpOp P ops Q m (fun a' w' => (S w' ∨ lastOp .any ops m = true) ∧ wpAnyZ P .any ops Q S r.len (l.setIfInBounds m true) a' w') a w
      rw [hb4]
      exact wpOp_mono (fun a' w' hk => ⟨hk.1.imp id And.right, wpAnyZ_tr hs hQ s _ _ _ (hl.step hm2) hb3 (hk.1.imp id And.left) hk.2⟩) h.2
  | .three i j k r s t, l, a, w, hl, hb, hS, h => by
    simp only [ordT, Bool.and_eq_true, beq_iff_eq] at hb
    obtain ⟨⟨⟨⟨⟨hb1, hb2⟩, hb3⟩, hb4⟩, hb5⟩, hb6⟩ := hb
    have hm1 : i ∈ Region.ready .any ops l := by rw [hb1]; simp
    have hm2 : j ∈ Region.ready .any ops l := by rw [hb1]; simp
    have hm3 : k ∈ Region.ready .any ops l := by rw [hb1]; simp
    refine wpAnyZ_all hb1 (by simp) (fun m hm => ?_)
    rcases (by simpa using hm : m = i ∨ m = j ∨ m = k) with rfl | rfl | rfl
    · exact wpOp_mono (fun a' w' hk => ⟨hk.1.imp id And.right, wpAnyZ_tr hs hQ r _ _ _ (hl.step hm1) hb2 (hk.1.imp id And.left) hk.2⟩) h.1
    · show wpOp P ops Q m (fun a' w' => (S w' ∨ lastOp .any ops m = true) ∧ wpAnyZ P .any ops Q S r.len (l.setIfInBounds m true) a' w') a w
      rw [hb5]
      exact wpOp_mono (fun a' w' hk => ⟨hk.1.imp id And.right, wpAnyZ_tr hs hQ s _ _ _ (hl.step hm2) hb3 (hk.1.imp id And.left) hk.2⟩) h.2.1
    · show wpOp P ops Q m (fun a' w' => (S w' ∨ lastOp .any ops m = true) ∧ wpAnyZ P .any ops Q S r.len (l.setIfInBounds m true) a' w') a w
      rw [hb6]
      exact wpOp_mono (fun a' w' hk => ⟨hk.1.imp id And.right, wpAnyZ_tr hs hQ t _ _ _ (hl.step hm3) hb4 (hk.1.imp id And.left) hk.2⟩) h.2.2
theorem tr_start {id : Nat} {a : Act} {w : World} (t : Tr) (S : World → Prop) (hm : P.follows .mixedOrders = true)
    (hb : (Region.noSelect ops && (t.len == ops.size) && ordT .any ops (Array.replicate ops.size false) t) = true) (hQ : ∀ c a d v w, Q (.panic c) (a.put d v) w → Q (.panic c) a w)
    (hS : S w.drew) (h : wpTr P ops Q S t a w.drew) : (Code.region id ops true).wp P Q a w := by
  simp only [Bool.and_eq_true, beq_iff_eq] at hb
  refine wp_region_any hm ?_
  have := wpAny_of_Z _ _ _ _ (wpAnyZ_tr hb.1.1 hQ t (Array.replicate ops.size false) a w.drew (ShutL.start _) hb.2 (.inl hS) h)
  rw [hb.1.2] at this
  exact this
variable {i : Nat} {r : Tr} {o : Oper} {n : Tmp} {v : Value} {a a' : Act} {w w1 : World}
theorem tr_y (ho : ops[i]? = some o) (hN : o.dst = some n) (hw : Region.wanted o (yielded ops a.tmps) = true) (hr : ∀ w', S w' → (execOp a.eval o).run P w' = .ok (.value v) w') (ha : a.put (some n) v = a') (h : wpTr P ops Q S r a' w) :
    wpTr P ops Q S (.y i r) a w := ⟨o, v, ho, .inl ⟨hw, hr⟩, by rw [hN, ha]; exact h⟩
theorem tr_off (ho : ops[i]? = some o) (hN : o.dst = some n) (hw : Region.wanted o (yielded ops a.tmps) = false) (ha : a.put (some n) undef = a') (h : wpTr P ops Q S r a' w) :
    wpTr P ops Q S (.y i r) a w := ⟨o, undef, ho, .inr ⟨hw, rfl⟩, by rw [hN, ha]; exact h⟩
theorem tr_two {j : Nat} {s : Tr} (h : wpTr P ops Q S (.e i r) a w) (k : wpTr P ops Q S (.e j s) a w) : wpTr P ops Q S (.two i j r s) a w := ⟨h, k⟩
theorem tr_three {j k : Nat} {s t : Tr} (h1 : wpTr P ops Q S (.e i r) a w) (h2 : wpTr P ops Q S (.e j s) a w) (h3 : wpTr P ops Q S (.e k t) a w) : wpTr P ops Q S (.three i j k r s t) a w := ⟨h1, h2, h3⟩
theorem tr_call {f : FuncId} {fn : Func} {ars : Array Operand} {ts : Array TypeId} (hi : ops[i]? = some o) (hf : P.funcs[f]? = some fn) (hname : (fn.name == "runtime.NumGoroutine") = false) (hb : fn.body.isSome = true) (args : Array Value)
    (hw : Region.wanted o (yielded ops a.tmps) = true) (hN : o.dst = some n) (hop : o.op = .call { callee := .value (.func f), args := ars, argTypes := ts }) (hargs : ars.map a.eval = args)
    (h : Calls P f args w fun e w' => ∃ v a', e = .returned v ∧ S w' ∧ a.put (some n) v = a' ∧ wpTr P ops Q S r a' w') : wpTr P ops Q S (.e i r) a w := by
  have he := enters hf hname hb args w
  have hrun : (execOp a.eval o).run P w = .ok (.enter f args) w := by
    unfold execOp
    simp [hop, resolve, Deferred.ofValue, invoke, Act.eval, hargs, he]
  show wpOp P ops Q i _ a w
  unfold Go.wpOp
  simp only [hi, hw, if_true]
  refine .inl ?_
  unfold Oper.wp
  rw [hrun, Oper.upon_enter]
  refine h.mono fun e w'' hh => ?_
  obtain ⟨v, a', rfl, hS, ha, hk⟩ := hh
  rw [hN]
  show (S w'' ∨ _) ∧ wpTr P ops Q S r (a.put (some n) v) w''
  rw [ha]
  exact ⟨.inl hS, hk⟩
/-- An operation that leaves a value and another world (an alloc, a literal slice). -/
theorem tr_value (hi : ops[i]? = some o) (hN : o.dst = some n) (hw : Region.wanted o (yielded ops a.tmps) = true) (hrun : (execOp a.eval o).run P w = .ok (.value v) w1) (hS : S w1) (ha : a.put (some n) v = a') (h : wpTr P ops Q S r a' w1) :
    wpTr P ops Q S (.e i r) a w := by
  show wpOp P ops Q i _ a w
  unfold Go.wpOp
  simp only [hi, hw, if_true]
  refine .inl ?_
  unfold Oper.wp
  rw [hrun]
  show (S w1 ∨ _) ∧ wpTr P ops Q S r (a.put o.dst v) w1
  rw [hN, ha]
  exact ⟨.inl hS, h⟩
/-- A step at large: what the operation's run comes to. -/
theorem tr_stepL (hi : ops[i]? = some o) (hw : Region.wanted o (yielded ops a.tmps) = true) (h : Oper.wp P o a w (fun a' w' => (S w' ∨ (r = .nil ∧ lastOp .any ops i = true)) ∧ wpTr P ops Q S r a' w') Q) : wpTr P ops Q S (.e i r) a w := by
  show wpOp P ops Q i _ a w
  unfold Go.wpOp
  simp only [hi, hw, if_true]
  exact .inl h
theorem tr_step (hi : ops[i]? = some o) (hw : Region.wanted o (yielded ops a.tmps) = true) (h : Oper.wp P o a w (fun a' w' => S w' ∧ wpTr P ops Q S r a' w') Q) : wpTr P ops Q S (.e i r) a w :=
  tr_stepL hi hw (Oper.wp_mono (fun _ _ hk => ⟨.inl hk.1, hk.2⟩) h)
/-- The last of all, a store: it need not keep S. -/
theorem tr_last (hi : ops[i]? = some o) (hw : Region.wanted o (yielded ops a.tmps) = true) (hN : o.dst = none) (hz : lastOp .any ops i = true) (hrun : (execOp a.eval o).run P w = .ok .skip w1) (h : Q .normal a w1) : wpTr P ops Q S (.e i .nil) a w := by
  refine tr_stepL hi hw ?_
  unfold Oper.wp
  rw [hrun]
  show (S w1 ∨ _) ∧ wpTr P ops Q S .nil (a.put o.dst undef) w1
  rw [hN]
  exact ⟨.inr ⟨rfl, hz⟩, h⟩
theorem tr_store (hi : ops[i]? = some o) (hw : Region.wanted o (yielded ops a.tmps) = true) (hN : o.dst = none) (hrun : (execOp a.eval o).run P w = .ok .skip w1) (hS : S w1) (h : wpTr P ops Q S r a w1) :
    wpTr P ops Q S (.e i r) a w := by
  refine tr_step hi hw ?_
  unfold Oper.wp
  rw [hrun]
  show S w1 ∧ wpTr P ops Q S r (a.put o.dst undef) w1
  rw [hN]
  exact ⟨hS, h⟩
theorem tr_eoff (ho : ops[i]? = some o) (hw : Region.wanted o (yielded ops a.tmps) = false) (hS : S w) (ha : a.put o.dst undef = a') (h : wpTr P ops Q S r a' w) :
    wpTr P ops Q S (.e i r) a w := by
  show wpOp P ops Q i _ a w
  unfold Go.wpOp
  simp only [ho, hw]
  rw [ha]
  exact ⟨.inl hS, h⟩
theorem tr_end (h : Q .normal a w) : wpTr P ops Q S .nil a w := h
end
end Go.Proofs.YtjcpgjnogcmalaaDoor.Three
