/- How values read as data: a descriptor for each shape (numbers, bools, strings, slices, structs, arrays), kept while the world grows; and how what a law is given is opened to it. -/
import Derived.Test.YtmdjndhebgnjoaaDoorBase
import Derived.Test.YtmdjndhebgnjoaaDoorRows
import Derived.OpenShut
import Derived.Deep.Slices
namespace Go.Proofs.YtmdjndhebgnjoaaDoor
set_option linter.unusedVariables false
set_option linter.unusedSimpArgs false
open Go.RowKit

/-- What is read in the one is read in the other. -/
def Cle (w w' : World) : Prop := ∀ p v, w.cell? p = some v → w'.cell? p = some v
theorem Ext.cle {w w' : World} (h : Ext w w') : Cle w w' := fun _ _ hc => h.cellk hc
theorem Cle.trans {a b c : World} (h : Cle a b) (k : Cle b c) : Cle a c := fun p v hc => k p v (h p v hc)
/-- A shape: how many cells, when cells read as x, and what is known of x by its size (ok B: no length beyond B). -/
structure Rd (α : Type) where
  sz : Nat
  K : World → α → List Value → Prop
  ok : Nat → α → Prop
  len : ∀ {w x cs}, K w x cs → cs.length = sz
  mono : ∀ {w w' x cs}, Cle w w' → K w x cs → K w' x cs

theorem add_add' (a : Addr) (i j : Nat) : (a.add i).add j = a.add (i + j) := by
  unfold Addr.add
  by_cases hi : i = 0 <;> by_cases hj : j = 0 <;> simp [hi, hj, Nat.add_assoc]

namespace Rd
def int (k : IntKind) : Rd Int := ⟨1, fun _ x cs => cs = [.int k x], fun _ x => (Lit.int k x).wf = true, fun h => by rw [h]; rfl, fun _ h => h⟩
def u8 : Rd UInt8 := ⟨1, fun _ x cs => cs = [.int .u8 x.toNat], fun _ _ => True, fun h => by rw [h]; rfl, fun _ h => h⟩
def bool : Rd Bool := ⟨1, fun _ x cs => cs = [.bool x], fun _ _ => True, fun h => by rw [h]; rfl, fun _ h => h⟩
def str : Rd ByteArray := ⟨1, fun _ x cs => cs = [.string x], fun B x => x.size ≤ B, fun h => by rw [h]; rfl, fun _ h => h⟩

/-- The cells of a slice from A on read as xs. -/
def Sl {α : Type} (d : Rd α) (w : World) (A : Option Addr) (n : Nat) (xs : List α) : Prop :=
  xs.length = n ∧ (0 < n → ∃ b o, A = some ⟨b, o, none⟩ ∧ ∀ i (h : i < xs.length), ∃ cs, d.K w xs[i] cs ∧ ∀ j u, cs[j]? = some u → w.cell? ⟨b, o + i * d.sz + j, none⟩ = some u)
theorem ext {α : Type} (d : Rd α) {w w' : World} {x : α} {cs : List Value} (hE : Ext w w') (h : d.K w x cs) : d.K w' x cs := d.mono hE.cle h
theorem Sl.mono {α : Type} {d : Rd α} {w w' : World} {A : Option Addr} {n : Nat} {xs : List α} (h : d.Sl w A n xs) (hE : Cle w w') : d.Sl w' A n xs :=
  ⟨h.1, fun hn => by
    obtain ⟨b, o, e, hc⟩ := h.2 hn
    refine ⟨b, o, e, fun i hi => ?_⟩
    obtain ⟨cs, hk, hcell⟩ := hc i hi
    exact ⟨cs, d.mono hE hk, fun j u hu => hE _ _ (hcell j u hu)⟩⟩
theorem Sl.ext {α : Type} {d : Rd α} {w w' : World} {A : Option Addr} {n : Nat} {xs : List α} (h : d.Sl w A n xs) (hE : Ext w w') : d.Sl w' A n xs := h.mono hE.cle
theorem Sl.none {α : Type} (d : Rd α) (w : World) (A : Option Addr) : d.Sl w A 0 [] := ⟨rfl, fun h => absurd h (Nat.lt_irrefl 0)⟩
/-- Element i. -/
theorem Sl.get {α : Type} {d : Rd α} {w : World} {A : Option Addr} {n : Nat} {xs : List α} (h : d.Sl w A n xs) (i : Nat) (hi : i < n) :
    ∃ b o cs, A = some ⟨b, o, Option.none⟩ ∧ d.K w (xs[i]'(by rw [h.1]; exact hi)) cs ∧ ∀ j u, cs[j]? = some u → w.cell? ⟨b, o + i * d.sz + j, Option.none⟩ = some u := by
  obtain ⟨b, o, e, hc⟩ := h.2 (by omega)
  obtain ⟨cs, hk, hcell⟩ := hc i (by rw [h.1]; exact hi)
  exact ⟨b, o, cs, e, hk, hcell⟩

def slice {α : Type} (d : Rd α) : Rd (List α) where
  sz := 1
  K := fun w xs cs => ∃ A c, cs = [.slice A xs.length c] ∧ xs.length ≤ c ∧ d.Sl w A xs.length xs
  ok := fun B xs => xs.length ≤ B ∧ ∀ x ∈ xs, d.ok B x
  len := by rintro w x cs ⟨A, c, rfl, _⟩; rfl
  mono := by rintro w w' x cs hE ⟨A, c, rfl, hl, h⟩; exact ⟨A, c, rfl, hl, h.mono hE⟩
def pair {α β : Type} (a : Rd α) (b : Rd β) : Rd (α × β) where
  sz := a.sz + b.sz
  K := fun w x cs => ∃ c0 c1, cs = c0 ++ c1 ∧ a.K w x.1 c0 ∧ b.K w x.2 c1
  ok := fun B x => a.ok B x.1 ∧ b.ok B x.2
  len := by rintro w x cs ⟨c0, c1, rfl, h0, h1⟩; rw [List.length_append, a.len h0, b.len h1]
  mono := by rintro w w' x cs hE ⟨c0, c1, rfl, h0, h1⟩; exact ⟨c0, c1, rfl, a.mono hE h0, b.mono hE h1⟩
/-- A structure by its fields. -/
def iso {α β : Type} (d : Rd α) (f : β → α) : Rd β where
  sz := d.sz
  K := fun w x cs => d.K w (f x) cs
  ok := fun B x => d.ok B (f x)
  len := d.len
  mono := d.mono
/-- n elements in line. -/
def arr {α : Type} (n : Nat) (d : Rd α) : Rd (List α) where
  sz := n * d.sz
  K := fun w xs cs => xs.length = n ∧ cs.length = n * d.sz ∧ ∀ i (h : i < xs.length), d.K w xs[i] ((cs.drop (i * d.sz)).take d.sz)
  ok := fun B xs => ∀ x ∈ xs, d.ok B x
  len := fun h => h.2.1
  mono := fun hE h => ⟨h.1, h.2.1, fun i hi => d.mono hE (h.2.2 i hi)⟩
end Rd

/-! ### opening what a law is given -/
section
variable {P : Program}
/-- Of no more than so much: by the bulk, or each string and slice by its weight. -/
def Lim {H : Type} (P : Program) (t : TypeId) (x : DataW H) (B : Nat) : Prop := Rows.uptoBulk x ≤ B ∨ ∀ n ∈ x.weights P t, n ≤ B
def LimAll {H : Type} (P : Program) (e : TypeId) (l : List (DataW H)) (B : Nat) : Prop := Rows.uptoBulkAll l ≤ B ∨ ∀ n ∈ DataW.weightsAll P e l, n ≤ B
def LimEach {H : Type} (P : Program) (ts : List TypeId) (l : List (DataW H)) (B : Nat) : Prop := Rows.uptoBulkAll l ≤ B ∨ ∀ n ∈ DataW.weightsEach P ts l, n ≤ B
theorem bulk_mem {H : Type} : ∀ (l : List (DataW H)) (x : DataW H), x ∈ l → Rows.uptoBulk x ≤ Rows.uptoBulkAll l
  | [], _, h => by simp at h
  | d :: r, x, h => by
    rw [Rows.uptoBulkAll]
    rcases List.mem_cons.1 h with rfl | h
    · omega
    · have := bulk_mem r x h; omega
theorem bulk_pos {H : Type} (x : DataW H) : 1 ≤ Rows.uptoBulk x := by
  cases x <;> try (simp [Rows.uptoBulk]; done)
  next l => cases l <;> simp [Rows.uptoBulk]
theorem bulk_len {H : Type} : ∀ (l : List (DataW H)), l.length ≤ Rows.uptoBulkAll l
  | [] => by simp
  | d :: r => by
    rw [Rows.uptoBulkAll, List.length_cons]
    have := bulk_len r
    have := bulk_pos d
    omega
theorem weights_mem {H : Type} {P : Program} {e : TypeId} : ∀ (l : List (DataW H)) (x : DataW H), x ∈ l → ∀ n ∈ x.weights P e, n ∈ DataW.weightsAll P e l
  | [], _, h, _, _ => by cases h
  | d :: r, x, h, n, hn => by
    rw [DataW.weightsAll]
    rcases List.mem_cons.1 h with rfl | h
    · exact List.mem_append_left _ hn
    · exact List.mem_append_right _ (weights_mem r x h n hn)
theorem LimAll.mem {H : Type} {P : Program} {e : TypeId} {l : List (DataW H)} {B : Nat} (h : LimAll P e l B) {x : DataW H} (hx : x ∈ l) : Lim P e x B :=
  h.imp (fun h => Nat.le_trans (bulk_mem l x hx) h) fun h n hn => h n (weights_mem l x hx n hn)
theorem LimEach.head {H : Type} {P : Program} {t : TypeId} {ts : List TypeId} {x : DataW H} {l : List (DataW H)} {B : Nat} (h : LimEach P (t :: ts) (x :: l) B) : Lim P t x B :=
  h.imp (fun h => by rw [Rows.uptoBulkAll] at h; omega) fun h n hn => h n (by rw [DataW.weightsEach]; exact List.mem_append_left _ hn)
theorem LimEach.tail {H : Type} {P : Program} {t : TypeId} {ts : List TypeId} {x : DataW H} {l : List (DataW H)} {B : Nat} (h : LimEach P (t :: ts) (x :: l) B) : LimEach P ts l B :=
  h.imp (fun h => by rw [Rows.uptoBulkAll] at h; omega) fun h n hn => h n (by rw [DataW.weightsEach]; exact List.mem_append_right _ hn)
theorem Lim.slice {H : Type} {P : Program} {t e : TypeId} (ht : P.underlying t = some (.slice e)) (hb : 0 < P.bytesOf e) {elems spare : List (DataW H)} {B : Nat} (h : Lim P t (.slice elems spare) B) : elems.length ≤ B ∧ LimAll P e elems B := by
  rcases h with h | h
  · simp only [Rows.uptoBulk] at h
    have := bulk_len elems
    exact ⟨by omega, .inl (by omega)⟩
  · unfold DataW.weights at h
    simp only [ht] at h
    refine ⟨?_, .inr fun n hn => h n (List.mem_cons_of_mem _ (List.mem_append_left _ hn))⟩
    have h1 := h _ (List.mem_cons_self ..)
    refine Nat.le_trans ?_ h1
    refine Nat.le_trans (Nat.le_add_right _ spare.length) ?_
    exact Nat.le_mul_of_pos_right _ hb
theorem Lim.struct {H : Type} {P : Program} {t : TypeId} {fs : Array Field} (ht : P.underlying t = some (.struct fs)) {parts : List (DataW H)} {B : Nat} (h : Lim P t (.agg parts) B) : LimEach P (fs.toList.map (·.type)) parts B := by
  rcases h with h | h
  · simp only [Rows.uptoBulk] at h
    exact .inl (by omega)
  · unfold DataW.weights at h
    simp only [ht] at h
    exact .inr h
theorem Lim.arr {H : Type} {P : Program} {t e : TypeId} {n : Nat} (ht : P.underlying t = some (.array n e)) {parts : List (DataW H)} {B : Nat} (h : Lim P t (.agg parts) B) : LimAll P e parts B := by
  rcases h with h | h
  · simp only [Rows.uptoBulk] at h
    exact .inl (by omega)
  · unfold DataW.weights at h
    simp only [ht] at h
    exact .inr h
/-- A type's values read by the descriptor. -/
def Opens {α : Type} (P : Program) (t : TypeId) (d : Rd α) : Prop :=
  P.cellsOf t = d.sz ∧ ∀ (H : Type) (enc : TypeId × Value → H) (w : World) (base : Nat) (spare : Nat → Bool) (held : Bool) (fuel : Nat) (cs : List Value) (x : DataW H × List MemPlace),
    DataW.trod enc P w base spare held fuel t cs = some x → ∃ y, d.K w y cs ∧ d.ok maxLen y ∧ ∀ B, Lim P t x.1 B → d.ok B y
theorem opens_int {t : TypeId} {k : IntKind} (ht : P.underlying t = some (.int k)) (hc : P.cellsOf t = 1) : Opens P t (Rd.int k) :=
  ⟨hc, fun H enc w base spare held fuel cs x h => by
    obtain ⟨n, rfl, rfl, hw⟩ := DataW.trod_int ht h
    exact ⟨n, rfl, hw, fun _ _ => hw⟩⟩
theorem opens_u8 {t : TypeId} (ht : P.underlying t = some (.int .u8)) (hc : P.cellsOf t = 1) : Opens P t Rd.u8 :=
  ⟨hc, fun H enc w base spare held fuel cs x h => by
    obtain ⟨n, rfl, rfl, hw⟩ := DataW.trod_int ht h
    have hb : 0 ≤ n ∧ n ≤ 255 := by simpa [Lit.wf, IntKind.min, IntKind.max, IntKind.signed, IntKind.bits] using hw
    refine ⟨UInt8.ofNat n.toNat, ?_, trivial, fun _ _ => trivial⟩
    show [Value.int .u8 n] = [Value.int .u8 ((UInt8.ofNat n.toNat).toNat : Int)]
    rw [UInt8.toNat_ofNat', Nat.mod_eq_of_lt (by omega), Int.toNat_of_nonneg hb.1]⟩
theorem opens_bool {t : TypeId} (ht : P.underlying t = some .bool) (hc : P.cellsOf t = 1) : Opens P t Rd.bool :=
  ⟨hc, fun H enc w base spare held fuel cs x h => by
    obtain ⟨n, rfl, rfl⟩ := DataW.trod_bool ht h
    exact ⟨n, rfl, trivial, fun _ _ => trivial⟩⟩
theorem opens_str {t : TypeId} (ht : P.underlying t = some .string) (hc : P.cellsOf t = 1) : Opens P t Rd.str :=
  ⟨hc, fun H enc w base spare held fuel cs x h => by
    obtain ⟨s, rfl, rfl, hs⟩ := DataW.trod_string ht h
    refine ⟨s, rfl, hs, fun B hB => ?_⟩
    have : s.size = s.data.size := rfl
    show s.size ≤ B
    rcases hB with hB | hB
    · simp only [Rows.uptoBulk, Array.length_toList] at hB
      omega
    · have := hB s.data.toList.length (by simp [DataW.weights])
      rw [Array.length_toList] at this
      omega⟩
theorem cells_get {w : World} {base n : Nat} {a : Addr} {cs : List Value} (h : w.cells? base a n = some cs) : cs.length = n ∧ ∀ j u, cs[j]? = some u → w.cell? (a.add j) = some u := by
  unfold World.cells? at h
  split at h
  · have hl := mapM_some_length h
    refine ⟨by simpa using hl, fun j u hu => ?_⟩
    have hj : j < n := by
      have := (List.getElem?_eq_some_iff.1 hu).1
      rw [hl] at this
      simpa using this
    have := mapM_some_get h j j (by simp [hj])
    rw [this, hu]
  · cases h
theorem opens_slice {α : Type} {t e : TypeId} {d : Rd α} (ht : P.underlying t = some (.slice e)) (hc : P.cellsOf t = 1) (he : Opens P e d) (hs : 0 < d.sz) (hbe : 0 < P.bytesOf e) : Opens P t (Rd.slice d) :=
  ⟨hc, fun H enc w base spare held fuel cs x h => by
    rcases DataW.trod_slice ht h with ⟨rfl, rfl⟩ | ⟨a, len, cap, elems, rest, n, rfl, rfl, rfl, hb, hlc, hcap, hel, hget, _, _⟩
    · exact ⟨[], ⟨none, 0, rfl, Nat.le_refl _, Rd.Sl.none _ _ _⟩, ⟨by simp, by simp⟩, fun _ _ => ⟨by simp, by simp⟩⟩
    · have hex : ∀ i, i < len → ∃ y, (∃ cs, d.K w y cs ∧ ∀ j u, cs[j]? = some u → w.cell? (a.add (i * d.sz + j)) = some u) ∧ d.ok maxLen y ∧ ∀ B, LimAll P e (elems.map (·.1)) B → d.ok B y := by
        intro i hi
        have hg := hget i hi
        rw [List.getElem?_eq_getElem (by omega)] at hg
        obtain ⟨cs, hcs, htr⟩ := Option.bind_eq_some_iff.1 hg
        obtain ⟨y, hk, hm, hB⟩ := he.2 H enc w base spare held n cs _ htr
        rw [he.1] at hcs
        refine ⟨y, ⟨cs, hk, fun j u hu => ?_⟩, hm, fun B hle => hB B (LimAll.mem hle (List.mem_map_of_mem (List.getElem_mem _)))⟩
        rw [← add_add']
        exact (cells_get hcs).2 j u hu
      classical
      have hxs : ∃ xs : List α, xs.length = len ∧ ∀ i (h : i < xs.length) (h' : i < len), xs[i] = (hex i h').choose :=
        ⟨(List.finRange len).map fun i => (hex i.1 i.2).choose, by simp, fun i h h' => by simp⟩
      obtain ⟨xs, hl, hx⟩ := hxs
      refine ⟨xs, ⟨some a, cap, by rw [hl], by omega, ⟨rfl, fun h0 => ?_⟩⟩, ⟨by omega, fun y hy => ?_⟩, fun B hB => ⟨?_, fun y hy => ?_⟩⟩
      · have hsp : a.spot = none := by
          obtain ⟨cs, hk, hc⟩ := (hex 0 (by omega)).choose_spec.1
          have hl0 := d.len hk
          have h1 := hc 0 _ (List.getElem?_eq_getElem (by omega))
          rw [Nat.zero_mul] at h1
          exact World.cell?_spot h1
        obtain ⟨b, o, s⟩ := a
        obtain rfl : s = none := hsp
        refine ⟨b, o, rfl, fun i hi => ?_⟩
        rw [hx i hi (by omega)]
        obtain ⟨cs, hk, hc⟩ := (hex i (by omega)).choose_spec.1
        refine ⟨cs, hk, fun j u hu => ?_⟩
        have h1 := hc j u hu
        have h2 : (⟨b, o, none⟩ : Addr).add (i * d.sz + j) = ⟨b, o + i * d.sz + j, none⟩ := by
          unfold Addr.add
          split
          · simp [*]
          · simp; omega
        rwa [h2] at h1
      · obtain ⟨i, hi, rfl⟩ := List.getElem_of_mem hy
        rw [hx i hi (by omega)]
        exact (hex i (by omega)).choose_spec.2.1
      · have h1 := (Lim.slice ht hbe hB).1
        rw [List.length_map] at h1
        omega
      · obtain ⟨i, hi, rfl⟩ := List.getElem_of_mem hy
        rw [hx i hi (by omega)]
        exact (hex i (by omega)).choose_spec.2.2 B (Lim.slice ht hbe hB).2⟩
/-- Fields from one on. -/
def OpensFs {α : Type} (P : Program) (fs : List Field) (off : Nat) (d : Rd α) : Prop :=
  ∀ (H : Type) (enc : TypeId × Value → H) (w : World) (base : Nat) (spare : Nat → Bool) (held : Bool) (n : Nat) (cs : List Value) (xs : List (DataW H × List MemPlace)),
    (∀ (i : Nat) (f : Field), fs[i]? = some f → DataW.trod enc P w base spare held n f.type ((cs.drop f.offset).take (P.cellsOf f.type)) = xs[i]?) → xs.length = fs.length → cs.length = off + d.sz →
    ∃ y, d.K w y (cs.drop off) ∧ d.ok maxLen y ∧ ∀ B, LimEach P (fs.map (·.type)) (xs.map (·.1)) B → d.ok B y
theorem opensFs_one {α : Type} {f : Field} {off : Nat} {d : Rd α} (ho : f.offset = off) (h : Opens P f.type d) : OpensFs P [f] off d := by
  intro H enc w base spare held n cs xs hx hl hcs
  have h0 := hx 0 f rfl
  rw [List.getElem?_eq_getElem (by simp at hl; omega), ho, h.1, List.take_of_length_le (by rw [List.length_drop]; omega)] at h0
  obtain ⟨y, hk, hm, hB⟩ := h.2 H enc w base spare held n _ _ h0
  refine ⟨y, hk, hm, fun B hle => hB B ?_⟩
  cases xs with
  | nil => simp at hl
  | cons x0 xs => exact LimEach.head hle
theorem opensFs_cons {α β : Type} {f : Field} {fs : List Field} {off : Nat} {d : Rd α} {d' : Rd β} (ho : f.offset = off) (h : Opens P f.type d) (hr : OpensFs P fs (off + d.sz) d') : OpensFs P (f :: fs) off (d.pair d') := by
  intro H enc w base spare held n cs xs hx hl hcs
  have h0 := hx 0 f rfl
  cases xs with
  | nil => simp at hl
  | cons x0 xs =>
    have hcs' : cs.length = off + (d.sz + d'.sz) := hcs
    rw [ho, h.1] at h0
    obtain ⟨y, hk, hm, hB⟩ := h.2 H enc w base spare held n _ _ h0
    obtain ⟨z, hk', hm', hB'⟩ := hr H enc w base spare held n cs xs (fun i g hg => by have := hx (i + 1) g (by simpa using hg); simpa using this) (by simpa using hl) (by omega)
    refine ⟨(y, z), ⟨_, _, ?_, hk, hk'⟩, ⟨hm, hm'⟩, fun B hle => ⟨hB B ?_, hB' B ?_⟩⟩
    · rw [← List.drop_drop, List.take_append_drop]
    · exact LimEach.head hle
    · exact LimEach.tail hle
theorem opens_struct {α β : Type} {t : TypeId} {fs : Array Field} {d : Rd α} (f : β → α) (g : α → β) (hfg : ∀ x, f (g x) = x) (ht : P.underlying t = some (.struct fs)) (hc : P.cellsOf t = d.sz) (h : OpensFs P fs.toList 0 d) : Opens P t (d.iso f) :=
  ⟨hc, fun H enc w base spare held fuel cs x hx => by
    obtain ⟨xs, n, rfl, rfl, hl, hxl, hf⟩ := DataW.trod_struct ht hx
    obtain ⟨y, hk, hm, hB⟩ := h H enc w base spare held n cs xs (fun i f' hf' => hf i f' (by rw [← Array.getElem?_toList]; exact hf')) (by rw [hxl, Array.length_toList]) (by rw [hl, hc, Nat.zero_add])
    rw [List.drop_zero] at hk
    refine ⟨g y, by show d.K w (f (g y)) cs; rw [hfg]; exact hk, by show d.ok _ (f (g y)); rw [hfg]; exact hm, fun B hle => ?_⟩
    show d.ok _ (f (g y))
    rw [hfg]
    exact hB B (by have := Lim.struct ht hle; simpa using this)⟩
theorem opens_arr {α : Type} {t e : TypeId} {n : Nat} {d : Rd α} (ht : P.underlying t = some (.array n e)) (hc : P.cellsOf t = n * d.sz) (h : Opens P e d) : Opens P t (Rd.arr n d) :=
  ⟨hc, fun H enc w base spare held fuel cs x hx => by
    obtain ⟨xs, m, rfl, rfl, hl, hxl, hf⟩ := DataW.trod_array ht hx
    have hex : ∀ i, i < n → ∃ y, d.K w y ((cs.drop (i * d.sz)).take d.sz) ∧ d.ok maxLen y ∧ ∀ B, LimAll P e (xs.map (·.1)) B → d.ok B y := by
      intro i hi
      have hg := hf i hi
      rw [List.getElem?_eq_getElem (by omega), h.1] at hg
      obtain ⟨y, hk, hm, hB⟩ := h.2 H enc w base spare held m _ _ hg
      exact ⟨y, hk, hm, fun B hle => hB B (LimAll.mem hle (List.mem_map_of_mem (List.getElem_mem _)))⟩
    have hxs : ∃ ys : List α, ys.length = n ∧ ∀ i (h : i < ys.length) (h' : i < n), ys[i] = (hex i h').choose :=
      ⟨(List.finRange n).map fun i => (hex i.1 i.2).choose, by simp, fun i h h' => by simp⟩
    obtain ⟨ys, hyl, hy⟩ := hxs
    refine ⟨ys, ⟨hyl, by rw [hl, hc], fun i hi => ?_⟩, fun y hy' => ?_, fun B hB y hy' => ?_⟩
    · rw [hy i hi (by omega)]; exact (hex i (by omega)).choose_spec.1
    · obtain ⟨i, hi, rfl⟩ := List.getElem_of_mem hy'
      rw [hy i hi (by omega)]; exact (hex i (by omega)).choose_spec.2.1
    · obtain ⟨i, hi, rfl⟩ := List.getElem_of_mem hy'
      rw [hy i hi (by omega)]
      exact (hex i (by omega)).choose_spec.2.2 B (Lim.arr ht hB)⟩
end
end Go.Proofs.YtmdjndhebgnjoaaDoor
