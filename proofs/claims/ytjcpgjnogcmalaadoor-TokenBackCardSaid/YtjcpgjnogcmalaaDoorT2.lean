/- Bytes: held against one another, copied, lent, kept, written over. (and what follows) -/
import Derived.Test.YtjcpgjnogcmalaaDoorT1
import Derived.Laws.MakeOwn
import Derived.Lib.AppendStr
import Derived.Laws.BitsLemmas
import Derived.Laws.IdiomStrings
/-! Bytes: held against one another, copied, lent, kept, written over. -/
namespace Go.Proofs.YtjcpgjnogcmalaaDoor
set_option linter.unusedVariables false
set_option linter.unusedSimpArgs false
open Go.RowKit
def encB (b : UInt8) : List Value := [.int .u8 b.toNat]
theorem encB_len (x : UInt8) : (encB x).length = Rd.u8.sz := rfl
theorem encB_K (w : World) (x : UInt8) : Rd.u8.K w x (encB x) := rfl
theorem encB_one (l : List UInt8) : ∀ u ∈ l.flatMap encB, u.oneCell' = true := by
  intro u hu
  obtain ⟨x, _, hx⟩ := List.mem_flatMap.1 hu
  simp [encB] at hx
  subst hx; rfl
theorem elt_bytes : Elt Tryd.prog 40 5 1 1 := Elt.mk' (z := .int .u8 0) Tryd.underlying40 (by kernel_rfl) rfl (by decide)
theorem b_get {w : World} {A : Option Addr} {n : Nat} {l : List UInt8} (h : Rd.u8.Sl w A n l) (k : Nat) (hk : k < n) : ∃ b o, A = some ⟨b, o, none⟩ ∧ w.cell? ⟨b, o + k, none⟩ = some (.int .u8 (l[k]'(by rw [h.1]; exact hk)).toNat) := by
  obtain ⟨b, o, cs, e, hK, hc⟩ := h.get k hk
  have h0 := hc 0 _ (by rw [show cs = [_] from hK]; rfl)
  refine ⟨b, o, e, ?_⟩
  simpa [Rd.u8] using h0
theorem b_cells {w : World} {A : Option Addr} {n : Nat} {l : List UInt8} (h : Rd.u8.Sl w A n l) : Cells w A n 1 (l.flatMap encB) := sl_cellsOf (fun _ _ _ h => h) (fun _ => rfl) h
theorem b_one {l : List UInt8} {k : Nat} (h : k < l.length) : (l.take (k + 1)).flatMap encB = (l.take k).flatMap encB ++ [.int .u8 l[k].toNat] := by
  rw [List.take_succ_eq_append_getElem h, List.flatMap_append]
  rfl
theorem u8_ne {x y : UInt8} (h : x ≠ y) : (((x.toNat : Int)) == ((y.toNat : Int))) = false := by
  rw [beq_eq_false_iff_ne]
  intro e
  exact h (UInt8.toNat_inj.1 (by omega))
theorem take_eq_one {α : Type} {l m : List α} {k : Nat} (hl : k < l.length) (hm : k < m.length) (h : l.take k = m.take k) (e : l[k] = m[k]) : l.take (k + 1) = m.take (k + 1) := by
  rw [List.take_succ_eq_append_getElem hl, List.take_succ_eq_append_getElem hm, h, e]
theorem own_bytes {w : World} {lo hi base : Nat} {e : TypeId} {v : Value} {l : List UInt8} (h : w.ownsRow base e 1 v l.length (l.flatMap encB)) (hb : lo ≤ base) (hh : w.heap.size ≤ hi) : ∃ A c, v = .slice A l.length c ∧ l.length ≤ c ∧ c ≤ maxLen ∧ Rd.u8.Sl (only w lo hi) A l.length l :=
  own_only (d := Rd.u8) encB_len encB_K h hb hh
set_option maxHeartbeats 1000000 in
set_option maxRecDepth 100000 in
theorem copyBytes_any (w : World) (A : Option Addr) (c : Nat) (l : List UInt8) (hS : Rd.u8.Sl w A l.length l) (hc : l.length ≤ c) (hn : l.length ≤ 4294967296) :
    Calls Tryd.prog 32 #[.slice A l.length c] w fun e w' => ∃ v, e = .returned v ∧ w'.ownsRow w.heap.size 5 1 v l.length (l.flatMap encB) ∧ Ext w w' := by
  obtain ⟨n, hln⟩ : ∃ n, l.length = n := ⟨_, rfl⟩
  rw [hln] at hS hc hn ⊢
  go_enter Tryd.func32, Tryd.ntmps32
  go_wp2_with fail
  go_loopw [3, 4] (fun s3 i wr => ∃ k : Nat, k ≤ n ∧ i = .int .i64 k ∧ wr.ownsRow w.heap.size 5 1 s3 k ((l.take k).flatMap encB) ∧ Ext w wr) (fun _ i _ => n - (intOf i).toNat)
  case atStart => exact ⟨0, by omega, rfl, World.ownsRow_nil _ _ _ _, Ext.refl _⟩
  case round =>
    obtain ⟨k, hkn, rfl, hown, hwr⟩ := hrel
    by_cases hlt : k < n
    · obtain ⟨b, o, rfl, x0⟩ := b_get hS k hlt
      have htk := b_one (l := l) (k := k) (by omega)
      generalize hx : l[k]'(by omega) = x at *
      have x0 := hwr.cellk x0
      clear hx hS
      go_wp2_with (at_builtin; refine wpList_append_cells (news := [.int .u8 x.toNat]) rfl elt_bytes (.tmp 11) (.tmp 16) rfl (hown.alloc _) rfl rfl ?c0 ?c1 ?c2 ?c3 ?c4 ?_)
      case c0 => exact ⟨rfl, (fun h => by cases h), fun ad h j u hu => (by cases h; exact new_cells wr _ #[.int .u8 x.toNat] j u hu)⟩
      case c1 => intro u hu; simp at hu; subst hu; rfl
      case c2 => unfold maxLen; omega
      case c3 => omega
      case c4 => have := hwr.le; simp; omega
      intro v' w1 hown' hgrow
      have hE := grown_ext (hwr.alloc _) (hown.alloc _) hgrow
      rw [← htk] at hown'
      clear hown hgrow x0 htk
      go_wp2_with fail
      go_roundw
      case rel => exact ⟨k + 1, by omega, by go_num, hown', hE⟩
      case measure => simp [intOf]; omega
    · obtain rfl : k = n := by omega
      rw [← hln, List.take_length] at hown
      rw [hln] at hown
      go_wp2_with fail
      go_ret
      exact ⟨_, rfl, hown, hwr⟩
end Go.Proofs.YtjcpgjnogcmalaaDoor

/-! Bytes: marks, what is lent and kept; what is written over. -/
namespace Go.Proofs.YtjcpgjnogcmalaaDoor
set_option linter.unusedVariables false
set_option linter.unusedSimpArgs false
open Go.RowKit
def markB (k : Nat) : UInt8 := UInt8.ofNat (201 + 7 * k)
def marksB (k : Nat) : List UInt8 := (List.range k).map markB
theorem marksB_len (k : Nat) : (marksB k).length = k := by simp [marksB]
theorem marksB_one (l : List UInt8) (k : Nat) : (l ++ marksB (k + 1)).flatMap encB = (l ++ marksB k).flatMap encB ++ [.int .u8 (markB k).toNat] := by
  unfold marksB
  rw [List.range_succ, List.map_append, ← List.append_assoc, List.flatMap_append (xs := l ++ _)]
  rfl
theorem markB_val (k : Nat) : IntKind.u8.wrap (201 + 7 * (k : Int)) = ((markB k).toNat : Int) := by
  unfold markB
  rw [UInt8.toNat_ofNat']
  simp [IntKind.wrap, IntKind.signed, IntKind.bits]
end Go.Proofs.YtjcpgjnogcmalaaDoor

/-! What lays numbers, bytes and texts: the program's pack. -/
namespace Go.Proofs.YtjcpgjnogcmalaaDoor
set_option linter.unusedVariables false
set_option linter.unusedSimpArgs false
open Go.RowKit
/-- Byte number k of a number, from the right. -/
def byteAt (v : Int) (k : Nat) : UInt8 := UInt8.ofNat (v / 2 ^ (8 * k) % 256).toNat
theorem byteAt_val (v : Int) (k : Nat) : ((byteAt v k).toNat : Int) = v / 2 ^ (8 * k) % 256 := by
  unfold byteAt
  generalize v / 2 ^ (8 * k) = x
  have h1 : 0 ≤ x % 256 := Int.emod_nonneg _ (by decide)
  have h2 : x % 256 < 256 := Int.emod_lt_of_pos _ (by decide)
  rw [UInt8.toNat_ofNat', Nat.mod_eq_of_lt (by omega), Int.toNat_of_nonneg h1]
def numA (v : Int) : Nat → Array Value
  | 0 => #[.int .u8 0, .int .u8 0, .int .u8 0, .int .u8 0, .int .u8 0, .int .u8 0, .int .u8 0, .int .u8 0]
  | k + 1 => (numA v k).setIfInBounds (7 - k) (.int .u8 (byteAt v k).toNat)
theorem numA_size (v : Int) : ∀ k, (numA v k).size = 8
  | 0 => rfl
  | k + 1 => by rw [numA, Array.size_setIfInBounds]; exact numA_size v k
def num8 (v : Int) : List UInt8 := [byteAt v 7, byteAt v 6, byteAt v 5, byteAt v 4, byteAt v 3, byteAt v 2, byteAt v 1, byteAt v 0]
theorem numA_8 (v : Int) : (numA v 8).toList = (num8 v).flatMap encB := by
  unfold num8
  simp only [numA, List.flatMap_cons, List.flatMap_nil, encB]
  generalize byteAt v 0 = a; generalize byteAt v 1 = b; generalize byteAt v 2 = c; generalize byteAt v 3 = d
  generalize byteAt v 4 = e; generalize byteAt v 5 = f; generalize byteAt v 6 = g; generalize byteAt v 7 = h
  rfl
set_option maxHeartbeats 1000000 in
set_option maxRecDepth 100000 in
theorem number_any (v : Int) (hv : -9223372036854775808 ≤ v ∧ v ≤ 9223372036854775807) (w : World) : Calls Tryd.prog 51 #[.int .i64 v] w fun e w' => ∃ u, e = .returned u ∧ w'.ownsRow w.heap.size 5 1 u 8 ((num8 v).flatMap encB) ∧ Ext w w' := by
  have hmk : ∀ w : World, (Instr.makeSlice 40 (.int .i64 8) (.int .i64 8)).run Tryd.prog w = .ok (.slice (some ⟨w.heap.size, 0, none⟩) 8 8) (w.alloc (.cells #[.int .u8 0, .int .u8 0, .int .u8 0, .int .u8 0, .int .u8 0, .int .u8 0, .int .u8 0, .int .u8 0] 5)) := fun _ => by kernel_rfl
  obtain ⟨W, hW, hE, -⟩ := box1 w #[.int .u8 0, .int .u8 0, .int .u8 0, .int .u8 0, .int .u8 0, .int .u8 0, .int .u8 0, .int .u8 0] 5
  have B1 : Blk W w.heap.size 5 (numA v 0) := by rw [hW]; exact Blk.new _ _ _
  go_enter Tryd.func51, Tryd.ntmps51
  go_wp2_with fail
  rw [← hW]
  clear hW hmk
  go_loopw [8] (fun i wr => ∃ k : Nat, k ≤ 8 ∧ i = .int .i64 k ∧ Blk wr w.heap.size 5 (numA v k) ∧ Ext w wr) (fun i _ => 8 - (intOf i).toNat)
  case atStart => exact ⟨0, by omega, rfl, B1, hE⟩
  case round =>
    clear hE B1
    obtain ⟨k, hkn, rfl, hB, hwr⟩ := hrel
    by_cases hlt : k < 8
    · have hz : 7 - k < (numA v k).size := by rw [numA_size]; omega
      have x0 := hB.cell (7 - k) (Array.getElem?_eq_getElem hz)
      have f0 := hB.frozen (7 - k)
      go_wp2_with fail
      go_roundw
      case rel => exact ⟨k + 1, by omega, by go_num, (by have h := hB.set_ (7 - k) (.int .u8 (v / 2 ^ (8 * k) % 256)); rw [numA, byteAt_val]; exact h), hwr.set (Nat.le_refl _) _⟩
      case measure => simp [intOf]; omega
    · obtain rfl : k = 8 := by omega
      go_wp2_with fail
      go_ret
      refine ⟨_, rfl, ⟨by simp [num8, encB], .inr ⟨_, 8, numA v 8, rfl, Nat.le_refl _, hB, Nat.le_refl _, by decide, numA_size v 8, ?_⟩⟩, hwr⟩
      rw [numA_8]; rfl
theorem wpList_make_own {P : Program} {t e : TypeId} {sz bytes : Nat} {w : World} {ops : Array Oper} {rest : List Oper} {o : Oper} {a : Act} {Q : Exit → Act → World → Prop} (hgd : o.guard = none) (E : Elt P t e sz bytes) (x y : Operand) (ho : o.op = .makeSlice t x y) (c : Nat) (hx : a.eval x = .int .i64 0) (hy : a.eval y = .int .i64 (c : Int)) (hb : bytes * c ≤ 281474976710656) (h63 : c ≤ maxLen)
    (h : ∀ w', w'.ownsRow w.heap.size e sz (.slice (some ⟨w.heap.size, 0, none⟩) 0 c) 0 [] → w.grownBy w' none → wpList P ops Q rest (a.put o.dst (.slice (some ⟨w.heap.size, 0, none⟩) 0 c)) w') : wpList P ops Q (o :: rest) a w :=
  wpList_plain hgd fun K hK => by
    obtain ⟨i, z, hi, hz, hsz, hby, hzc⟩ := E.hi
    obtain ⟨w', hr, hown, hg⟩ := run_make_own (P := P) w w.heap.size t e i z sz E.ht hi hz hsz .i64 .i64 c (by rw [hby]; exact hb) h63 (Nat.le_refl _)
    unfold Oper.wp execOp
    simp only [ho, hx, hy, Sem.run_bind, Sem.run_pure, Result.andThen_ok, hr]
    exact hK _ _ (h w' hown hg)
theorem grown_none {w w' : World} (h : w.grownBy w' none) : Ext w w' := ⟨h.os, h.tape, h.output, h.size, fun k hk => h.block k hk (by simp)⟩
theorem strCells_enc (s : ByteArray) : Lib.strCells s = s.data.toList.flatMap encB := by
  unfold Lib.strCells
  induction s.data.toList with
  | nil => rfl
  | cons x l ih => rw [List.map_cons, List.flatMap_cons, ih]; rfl
set_option maxHeartbeats 1000000 in
set_option maxRecDepth 100000 in
theorem laidB_any (w : World) (A : Option Addr) (c : Nat) (l : List UInt8) (hS : Rd.u8.Sl w A l.length l) (hc : l.length ≤ c) (hn : l.length ≤ 4294967296) (A' : Option Addr) (c' : Nat) (k : List UInt8) (hS' : Rd.u8.Sl w A' k.length k) (hc' : k.length ≤ c') (hn' : k.length ≤ 4294967296) :
    Calls Tryd.prog 50 #[.slice A l.length c, .slice A' k.length c'] w fun e w' => ∃ v, e = .returned v ∧ w'.ownsRow w.heap.size 5 1 v (l.length + k.length) ((l ++ k).flatMap encB) ∧ Ext w w' := by
  have hck := b_cells hS'
  have h1k := encB_one k
  rw [List.flatMap_append]
  obtain ⟨m, hkm⟩ : ∃ n, k.length = n := ⟨_, rfl⟩
  rw [hkm] at hck hc' hn' ⊢
  generalize k.flatMap encB = M at *
  clear hS' hkm
  obtain ⟨n, hln⟩ : ∃ n, l.length = n := ⟨_, rfl⟩
  have hcl := b_cells hS
  have h1 := encB_one l
  rw [hln] at hcl hc hn ⊢
  generalize l.flatMap encB = L at *
  clear hS hln
  go_enter Tryd.func50, Tryd.ntmps50
  go_wp2_with (first | (refine wpList_make_own rfl elt_bytes (.const (.int .i64 0)) (.tmp 11) rfl (n + m + 16) rfl (by go_num) (by omega) (by unfold maxLen; omega) ?_; intro w1 hown1 hg1; have hE1 := grown_none hg1; have hcl1 : Cells w1 A n 1 L := ⟨hcl.1, hcl.2.1, fun ad h j u hu => hE1.cellk (hcl.2.2 ad h j u hu)⟩) | (at_builtin; refine wpList_append_cells rfl elt_bytes (.tmp 13) (.tmp 14) rfl hown1 rfl rfl hcl1 h1 (by unfold maxLen; omega) (by omega) hE1.le ?_; intro v2 w2 hown2 hg2; have hE2 := grown_ext2 hE1 hown1 hg2 (Nat.le_refl _); have hck2 : Cells w2 A' m 1 M := ⟨hck.1, hck.2.1, fun ad h j u hu => hE2.cellk (hck.2.2 ad h j u hu)⟩; simp only [Nat.zero_add, List.nil_append] at hown2) | (at_builtin; refine wpList_append_cells rfl elt_bytes (.tmp 15) (.tmp 16) rfl hown2 rfl rfl hck2 h1k (by unfold maxLen; omega) (by omega) hE2.le ?_; intro v3 w3 hown3 hg3; have hE3 := grown_ext2 hE2 hown2 hg3 (Nat.le_refl _)))
  go_ret
  exact ⟨_, rfl, hown3, hE3⟩
set_option maxHeartbeats 1000000 in
set_option maxRecDepth 100000 in
theorem laidS_any (w : World) (A : Option Addr) (c : Nat) (l : List UInt8) (hS : Rd.u8.Sl w A l.length l) (hc : l.length ≤ c) (hn : l.length ≤ 4294967296) (s : ByteArray) (hs : s.size ≤ 4294967296) :
    Calls Tryd.prog 52 #[.slice A l.length c, .string s] w fun e w' => ∃ v, e = .returned v ∧ w'.ownsRow w.heap.size 5 1 v (l.length + s.size) ((l ++ s.data.toList).flatMap encB) ∧ Ext w w' := by
  obtain ⟨i0, hi, hz0, hz1, hz2⟩ := info_parts (show (Tryd.prog.info? 5).map (fun i => (i.zero, i.size, i.bytes)) = some (some (.int .u8 0), 1, 1) by kernel_rfl)
  rw [List.flatMap_append, ← strCells_enc]
  obtain ⟨n, hln⟩ : ∃ n, l.length = n := ⟨_, rfl⟩
  have hcl := b_cells hS
  have h1 := encB_one l
  rw [hln] at hcl hc hn ⊢
  generalize l.flatMap encB = L at *
  clear hS hln
  go_enter Tryd.func52, Tryd.ntmps52
  go_wp2_with (first | (refine wpList_make_own rfl elt_bytes (.const (.int .i64 0)) (.tmp 11) rfl (n + s.size + 16) rfl (by go_num) (by omega) (by unfold maxLen; omega) ?_; intro w1 hown1 hg1; have hE1 := grown_none hg1; have hcl1 : Cells w1 A n 1 L := ⟨hcl.1, hcl.2.1, fun ad h j u hu => hE1.cellk (hcl.2.2 ad h j u hu)⟩) | (at_builtin; refine wpList_append_cells rfl elt_bytes (.tmp 13) (.tmp 14) rfl hown1 rfl rfl hcl1 h1 (by unfold maxLen; omega) (by omega) hE1.le ?_; intro v2 w2 hown2 hg2; have hE2 := grown_ext2 hE1 hown1 hg2 (Nat.le_refl _); simp only [Nat.zero_add, List.nil_append] at hown2) | (at_builtin; refine Lib.wpList_append_own_string _ rfl (.tmp 15) (.tmp 16) 40 9 rfl w.heap.size 5 i0 Tryd.underlying40 Tryd.underlying9 hi hz0 hz1 hz2 _ _ _ rfl hown2 s rfl (by unfold maxLen; omega) (by omega) hE2.le ?_; intro v3 w3 hown3 hg3 _; have hE3 := grown_ext2 hE2 hown2 hg3 (Nat.le_refl _)))
  go_ret
  exact ⟨_, rfl, hown3, hE3⟩
theorem num8_len (v : Int) : (num8 v).length = 8 := rfl
set_option maxHeartbeats 1000000 in
set_option maxRecDepth 100000 in
theorem packInt_any (w : World) (A : Option Addr) (c : Nat) (l : List UInt8) (hS : Rd.u8.Sl w A l.length l) (hc : l.length ≤ c) (hn : l.length ≤ 4294967296) (v : Int) (hv : -9223372036854775808 ≤ v ∧ v ≤ 9223372036854775807) :
    Calls Tryd.prog 18 #[.slice A l.length c, .int .i64 v] w fun e w' => ∃ u, e = .returned u ∧ w'.ownsRow w.heap.size 5 1 u (l.length + 8) ((l ++ num8 v).flatMap encB) ∧ Ext w w' := by
  have hla := fun (w' : World) (h : Ext w w') => laidB_any w' A c l (hS.ext h) hc hn
  obtain ⟨n, hln⟩ : ∃ n, l.length = n := ⟨_, rfl⟩
  rw [hln] at hla ⊢
  clear hS
  go_enter Tryd.func18, Tryd.ntmps18
  go_wp2_with (first | (go_at_call 51; (with_reducible refine (number_any v hv _).mono ?_); rintro e w1 ⟨u1, rfl, hown1, hE1⟩; obtain ⟨A1, c1, hu1, h1c, -, h1S⟩ := own_bytes (lo := 0) (hi := w1.heap.size) (l := num8 v) (by rw [num8_len]; exact hown1) (Nat.zero_le _) (Nat.le_refl _); rw [num8_len] at hu1; subst hu1; have h2 := hla w1 hE1 A1 c1 (num8 v) (h1S.mono only_cle) h1c (by rw [num8_len]; decide); rw [num8_len] at h2; clear hla hown1 h1S) | (go_at_call 50; (with_reducible refine h2.mono ?_); rintro e w2 ⟨u2, rfl, hown2, hE2⟩))
  go_ret
  exact ⟨_, rfl, own_base hown2 hE1.le, hE1.trans hE2⟩
set_option maxHeartbeats 1000000 in
set_option maxRecDepth 100000 in
theorem packText_any (w : World) (A : Option Addr) (c : Nat) (l : List UInt8) (hS : Rd.u8.Sl w A l.length l) (hc : l.length ≤ c) (hn : l.length ≤ 1073741824) (s : ByteArray) (hs : s.size ≤ 4294967296) :
    Calls Tryd.prog 19 #[.slice A l.length c, .string s] w fun e w' => ∃ u, e = .returned u ∧ w'.ownsRow w.heap.size 5 1 u (l.length + 8 + s.size) ((l ++ num8 s.size ++ s.data.toList).flatMap encB) ∧ Ext w w' := by
  have h1 := packInt_any w A c l hS hc (by omega) s.size (by omega)
  have hla := fun (w' : World) A1 c1 hS1 hc1 => laidS_any w' A1 c1 (l ++ num8 s.size) hS1 hc1 (by rw [List.length_append, num8_len]; omega) s hs
  have hl : (l ++ num8 s.size).length = l.length + 8 := by rw [List.length_append, num8_len]
  rw [hl] at hla
  obtain ⟨n, hln⟩ : ∃ n, l.length = n := ⟨_, rfl⟩
  rw [hln] at h1 hla hl ⊢
  have HL := Lib.hid hl
  clear hS hln hl
  go_enter Tryd.func19, Tryd.ntmps19
  go_wp2_with (first | (go_at_call 18; (with_reducible refine h1.mono ?_); rintro e w1 ⟨u1, rfl, hown1, hE1⟩; obtain ⟨A1, c1, hu1, h1c, -, h1S⟩ := own_bytes (lo := 0) (hi := w1.heap.size) (l := l ++ num8 s.size) (by rw [HL.out]; exact hown1) (Nat.zero_le _) (Nat.le_refl _); rw [HL.out] at hu1 h1c h1S; subst hu1; have h2 := hla w1 A1 c1 (h1S.mono only_cle) h1c; clear hla hown1 h1S h1) | (go_at_call 52; (with_reducible refine h2.mono ?_); rintro e w2 ⟨u2, rfl, hown2, hE2⟩))
  go_ret
  exact ⟨_, rfl, own_base hown2 hE1.le, hE1.trans hE2⟩
end Go.Proofs.YtjcpgjnogcmalaaDoor

/-! What lays numbers, bytes and texts: the document's answer. -/
namespace Go.Proofs.YtjcpgjnogcmalaaDoor
set_option linter.unusedVariables false
set_option linter.unusedSimpArgs false
open Go.RowKit
def idx : Nat → Int
  | 0 => -1
  | m + 1 => m
def uOf (v : Int) : Nat := (v % 18446744073709551616).toNat
theorem uOf_wrap (v : Int) : IntKind.u64.wrap v = (uOf v : Int) := by
  unfold uOf
  rw [IntKind.wrap_u64, Int.toNat_of_nonneg (Int.emod_nonneg _ (by decide))]
theorem uOf_lt (v : Int) : uOf v < 18446744073709551616 := by
  unfold uOf
  have h1 := Int.emod_nonneg v (show (18446744073709551616 : Int) ≠ 0 by decide)
  have h2 := Int.emod_lt_of_pos v (show (0 : Int) < 18446744073709551616 by decide)
  omega
theorem uOf_byte (v : Int) : ∀ m, m < 8 → (uOf v / 256 ^ m) % 256 = (byteAt v m).toNat := by
  intro m hm
  have h := byteAt_val v m
  have hu : (uOf v : Int) = v % 18446744073709551616 := by
    unfold uOf; rw [Int.toNat_of_nonneg (Int.emod_nonneg _ (by decide))]
  have key : ((uOf v / 256 ^ m % 256 : Nat) : Int) = ((byteAt v m).toNat : Int) := by
    rw [h, Int.natCast_emod, Int.natCast_ediv, hu]
    obtain rfl | rfl | rfl | rfl | rfl | rfl | rfl | rfl : m = 0 ∨ m = 1 ∨ m = 2 ∨ m = 3 ∨ m = 4 ∨ m = 5 ∨ m = 6 ∨ m = 7 := by omega
    all_goals (simp <;> omega)
  exact Int.natCast_inj.1 key
theorem num8_take (v : Int) (m : Nat) (hm : m < 8) : (num8 v).take (8 - m) = (num8 v).take (7 - m) ++ [byteAt v m] := by
  obtain rfl | rfl | rfl | rfl | rfl | rfl | rfl | rfl : m = 0 ∨ m = 1 ∨ m = 2 ∨ m = 3 ∨ m = 4 ∨ m = 5 ∨ m = 6 ∨ m = 7 := by omega
  all_goals rfl
set_option maxHeartbeats 1000000 in
set_option maxRecDepth 100000 in
theorem refInt_any (w : World) (A : Option Addr) (c : Nat) (l : List UInt8) (hS : Rd.u8.Sl w A l.length l) (hc : l.length ≤ c) (hn : l.length ≤ 4294967296) (v : Int) :
    Calls Tryd.prog 39 #[.slice A l.length c, .int .i64 v] w fun e w' => ∃ u, e = .returned u ∧ w'.ownsRow w.heap.size 5 1 u (l.length + 8) ((l ++ num8 v).flatMap encB) ∧ Ext w w' := by
  have hcp := copyBytes_any w A c l hS hc hn
  obtain ⟨n, hln⟩ : ∃ n, l.length = n := ⟨_, rfl⟩
  rw [hln] at hcp hc hn ⊢
  have hw := uOf_wrap v
  have hul := uOf_lt v
  obtain ⟨u, hu⟩ : ∃ u, uOf v = u := ⟨_, rfl⟩
  rw [hu] at hw hul
  clear hS
  go_enter Tryd.func39, Tryd.ntmps39
  go_wp2_with (go_at_call 32; (with_reducible refine hcp.mono ?_); rintro e w1 ⟨v1, rfl, hown1, hE1⟩)
  clear hcp hw
  go_loopw [5, 7] (fun s5 i wr => ∃ j : Nat, j ≤ 8 ∧ i = .int .i64 (idx j) ∧ wr.ownsRow w.heap.size 5 1 s5 (n + (8 - j)) ((l ++ (num8 v).take (8 - j)).flatMap encB) ∧ Ext w wr) (fun _ i _ => (intOf i + 1).toNat)
  case atStart => exact ⟨8, by omega, rfl, by simpa using hown1, hE1⟩
  case round =>
    clear hown1 hE1
    obtain ⟨j, hj, rfl, hown, hwr⟩ := hrel
    cases j with
    | zero =>
      simp only [idx]
      go_wp2_with fail
      go_ret
      exact ⟨_, rfl, by simpa [num8] using hown, hwr⟩
    | succ m =>
      have hm : m ≤ 7 := by omega
      have hb := uOf_byte v m (by omega)
      have ht := num8_take v m (by omega)
      rw [hu] at hb
      have HB := Lib.hid hb
      have HT := Lib.hid ht
      obtain ⟨wo, rfl⟩ : ∃ wo : World, wo = wr := ⟨_, rfl⟩
      clear hb ht
      simp only [idx]
      go_wp2_with fail
      go_loop [8, 9] (fun x s => ∃ q a : Nat, q ≤ m ∧ s = .int .i64 q ∧ a = u / 256 ^ q ∧ a < 18446744073709551616 ∧ x = .int .u64 a) (fun _ s => m - (intOf s).toNat)
      case atStart => exact ⟨0, u, by omega, rfl, by simp, hul, rfl⟩
      case round =>
        obtain ⟨q, a, hq, rfl, ha, hal, rfl⟩ := hrel
        by_cases hlt : q < m
        · have hs : a / 256 = u / 256 ^ (q + 1) := by rw [ha, Nat.pow_succ, Nat.div_div_eq_div_mul]
          have HS := Lib.hid hs
          clear hs ha hown
          go_wp2_with fail
          go_round
          case rel => exact ⟨q + 1, a / 256, by omega, by go_num, HS.out, by omega, by go_num⟩
          case measure => simp [intOf]; omega
        · obtain rfl : q = m := by omega
          have hb := HB.out
          rw [← ha] at hb
          have hbv : (a : Int) % 256 = ((byteAt v q).toNat : Int) := by omega
          have ht := HT.out
          generalize byteAt v q = y at *
          have HT := Lib.hid ht
          clear hb ha ht
          go_wp2_with (at_builtin; refine wpList_append_cells (news := [.int .u8 y.toNat]) rfl elt_bytes (.tmp 26) (.tmp 30) rfl (hown.alloc _) rfl rfl ?c0 ?c1 ?c2 ?c3 ?c4 ?_)
          case c0 => exact ⟨rfl, (fun h => by cases h), fun ad h j u hu => (by cases h; exact new_cells wo _ #[.int .u8 y.toNat] j u hu)⟩
          case c1 => first | rfl | (intro u hu; simp at hu; subst hu; rfl)
          case c2 => unfold maxLen; omega
          case c3 => omega
          case c4 => have := hwr.le; simp; omega
          intro v' w3 hown' hgrow
          have hE := grown_ext (hwr.alloc _) (hown.alloc _) hgrow
          have hown2 : w3.ownsRow w.heap.size 5 1 v' (n + (8 - q)) ((l ++ (num8 v).take (8 - q)).flatMap encB) := by
            rw [HT.out, ← List.append_assoc, List.flatMap_append, show n + (8 - q) = n + (8 - (q + 1)) + 1 by omega]
            simpa [encB, List.flatMap_append, show 8 - (q + 1) = 7 - q by omega] using hown'
          clear hown hgrow hown' hbv
          go_wp2_with fail
          go_roundw
          case rel => exact ⟨q, by omega, (by cases q <;> simp [idx] <;> omega), hown2, hE⟩
          case measure => cases q <;> simp [intOf, idx] <;> omega
set_option maxHeartbeats 1000000 in
set_option maxRecDepth 100000 in
theorem refText_any (w : World) (A : Option Addr) (c : Nat) (l : List UInt8) (hS : Rd.u8.Sl w A l.length l) (hc : l.length ≤ c) (hn : l.length ≤ 1073741824) (s : ByteArray) (hs : s.size ≤ 4294967296) :
    Calls Tryd.prog 40 #[.slice A l.length c, .string s] w fun e w' => ∃ u, e = .returned u ∧ w'.ownsRow w.heap.size 5 1 u (l.length + 8 + s.size) ((l ++ num8 s.size ++ s.data.toList).flatMap encB) ∧ Ext w w' := by
  have hi := refInt_any w A c l hS hc (by omega) s.size
  obtain ⟨n, hln⟩ : ∃ n, l.length = n := ⟨_, rfl⟩
  rw [hln] at hi hc hn ⊢
  generalize l ++ num8 s.size = L at *
  clear hS hln
  go_enter Tryd.func40, Tryd.ntmps40
  go_wp2_with (go_at_call 39; (with_reducible refine hi.mono ?_); rintro e w1 ⟨v1, rfl, hown1, hE1⟩)
  clear hi
  go_loopw [5, 6] (fun s5 i wr => ∃ k : Nat, k ≤ s.size ∧ i = .int .i64 k ∧ wr.ownsRow w.heap.size 5 1 s5 (n + 8 + k) ((L ++ s.data.toList.take k).flatMap encB) ∧ Ext w wr) (fun _ i _ => s.size - (intOf i).toNat)
  case atStart => exact ⟨0, by omega, rfl, by simpa using hown1, hE1⟩
  case round =>
    clear hown1 hE1
    obtain ⟨k, hkn, rfl, hown, hwr⟩ := hrel
    by_cases hlt : k < s.size
    · have htk : (L ++ s.data.toList.take (k + 1)).flatMap encB = (L ++ s.data.toList.take k).flatMap encB ++ [.int .u8 s[k].toNat] := by
        have hk : k < s.data.toList.length := by simpa using hlt
        rw [List.flatMap_append, b_one hk, List.flatMap_append, List.append_assoc]
        rfl
      generalize hx : s[k] = x at *
      generalize (L ++ s.data.toList.take k).flatMap encB = M at *
      go_wp2_with (at_builtin; go_loud (refine wpList_append_cells (news := [.int .u8 x.toNat]) rfl elt_bytes (.tmp 17) (.tmp 21) rfl (hown.alloc _) rfl rfl ?c0 ?c1 ?c2 ?c3 ?c4 ?_))
      case c0 => exact ⟨rfl, (fun h => by cases h), fun ad h j u hu => (by cases h; exact new_cells wr _ #[.int .u8 x.toNat] j u hu)⟩
      case c1 => first | rfl | (intro u hu; simp at hu; subst hu; rfl)
      case c2 => unfold maxLen; omega
      case c3 => omega
      case c4 => have := hwr.le; simp; omega
      intro v' w3 hown' hgrow
      have hE := grown_ext (hwr.alloc _) (hown.alloc _) hgrow
      rw [← htk] at hown'
      clear hown hgrow htk hx
      go_wp2_with fail
      go_roundw
      case rel => exact ⟨k + 1, by omega, by go_num, hown', hE⟩
      case measure => simp [intOf]; omega
    · obtain rfl : k = s.size := by omega
      have e : s.data.toList.take s.size = s.data.toList := List.take_of_length_le (by simp)
      rw [e] at hown
      clear e
      go_wp2_with fail
      go_ret
      exact ⟨_, rfl, hown, hwr⟩
end Go.Proofs.YtjcpgjnogcmalaaDoor

/-! Bytes of the call's own: numbers, texts, bytes laid behind them, by the program and by the document's answer. -/
namespace Go.Proofs.YtjcpgjnogcmalaaDoor
set_option linter.unusedVariables false
set_option linter.unusedSimpArgs false
open Go.RowKit
def txtB (s : ByteArray) : List UInt8 := num8 s.size ++ s.data.toList
def numsB (l : List Int) : List UInt8 := l.flatMap num8
def blobsB (l : List (List UInt8)) : List UInt8 := l.flatMap fun x => num8 x.length ++ x
/-- Bytes of the call's own. -/
def OwnB (B : Nat) (w : World) (v : Value) (L : List UInt8) : Prop := w.ownsRow B 5 1 v L.length (L.flatMap encB)
theorem OwnB.sl {B : Nat} {w : World} {v : Value} {L : List UInt8} (h : OwnB B w v L) : ∃ A c, v = .slice A L.length c ∧ L.length ≤ c ∧ Rd.u8.Sl w A L.length L := by
  obtain ⟨A, c, hv, h1, _, h2⟩ := own_bytes (lo := 0) (hi := w.heap.size) h (Nat.zero_le _) (Nat.le_refl _)
  exact ⟨A, c, hv, h1, h2.mono only_cle⟩
theorem txtB_len (s : ByteArray) : (txtB s).length = 8 + s.size := by
  unfold txtB; rw [List.length_append, num8_len, Array.length_toList]; rfl
theorem numsB_one (l : List Int) (k : Nat) (h : k < l.length) : numsB (l.take (k + 1)) = numsB (l.take k) ++ num8 l[k] := by
  unfold numsB
  rw [List.take_succ_eq_append_getElem h, List.flatMap_append]
  simp
theorem numsB_len (l : List Int) : (numsB l).length = 8 * l.length := by
  unfold numsB
  induction l with
  | nil => rfl
  | cons x l ih => rw [List.flatMap_cons, List.length_append, ih, num8_len, List.length_cons]; omega
theorem blobsB_one (l : List (List UInt8)) (k : Nat) (h : k < l.length) : blobsB (l.take (k + 1)) = blobsB (l.take k) ++ (num8 l[k].length ++ l[k]) := by
  unfold blobsB
  rw [List.take_succ_eq_append_getElem h, List.flatMap_append]
  simp
theorem blobsB_len (l : List (List UInt8)) (h : ∀ x ∈ l, x.length ≤ 1048576) : ∀ k, (blobsB (l.take k)).length ≤ k * 1048584
  | 0 => by simp [blobsB]
  | k + 1 => by
    have ih := blobsB_len l h k
    by_cases hk : k < l.length
    · rw [blobsB_one l k hk, List.length_append, List.length_append, num8_len]
      have := h _ (List.getElem_mem hk)
      omega
    · rw [List.take_of_length_le (by omega)]
      rw [List.take_of_length_le (by omega)] at ih
      exact Nat.le_trans ih (Nat.mul_le_mul_right _ (Nat.le_succ k))
/-- Int behind bytes of the call's own. -/
theorem intO {B : Nat} {w : World} {v : Value} {L : List UInt8} (h : OwnB B w v L) (hB : B ≤ w.heap.size) (hL : L.length ≤ 4294967296) (x : Int) (hx : -9223372036854775808 ≤ x ∧ x ≤ 9223372036854775807) :
    Calls Tryd.prog 18 #[v, .int .i64 x] w fun e w' => ∃ u, e = .returned u ∧ OwnB B w' u (L ++ num8 x) ∧ Ext w w' := by
  obtain ⟨A, c, rfl, h1, h2⟩ := h.sl
  refine (packInt_any w A c L h2 h1 hL x hx).mono ?_
  rintro e w' ⟨u, rfl, hu, hE⟩
  refine ⟨u, rfl, ?_, hE⟩
  unfold OwnB
  rw [List.length_append, num8_len]
  exact own_base hu hB
theorem textO {B : Nat} {w : World} {v : Value} {L : List UInt8} (h : OwnB B w v L) (hB : B ≤ w.heap.size) (hL : L.length ≤ 1073741824) (s : ByteArray) (hs : s.size ≤ 4294967296) :
    Calls Tryd.prog 19 #[v, .string s] w fun e w' => ∃ u, e = .returned u ∧ OwnB B w' u (L ++ txtB s) ∧ Ext w w' := by
  obtain ⟨A, c, rfl, h1, h2⟩ := h.sl
  refine (packText_any w A c L h2 h1 hL s hs).mono ?_
  rintro e w' ⟨u, rfl, hu, hE⟩
  refine ⟨u, rfl, ?_, hE⟩
  unfold OwnB txtB
  have e1 : s.data.toList.length = s.size := by rw [Array.length_toList]; rfl
  rw [List.length_append, List.length_append, num8_len, e1, ← Nat.add_assoc, ← List.append_assoc]
  exact own_base hu hB
theorem OwnB.nil (B : Nat) (w : World) : OwnB B w (.slice none 0 0) [] := World.ownsRow_nil _ _ _ _
theorem OwnB.ext {B : Nat} {w w' : World} {v : Value} {L : List UInt8} (h : OwnB B w v L) (hE : Ext w w') : OwnB B w' v L := own_ext h hE
theorem arr4 (a b c d : Int) (k : Nat) (h : k < 4) : (#[.int .i64 a, .int .i64 b, .int .i64 c, .int .i64 d] : Array Value)[k]? = some (.int .i64 ([a, b, c, d][k]'h)) := by
  obtain rfl | rfl | rfl | rfl : k = 0 ∨ k = 1 ∨ k = 2 ∨ k = 3 := by omega
  all_goals rfl
/-- Bytes of the call's own, at most N of them. -/
def OwnN (B N : Nat) (w : World) (v : Value) (L : List UInt8) : Prop := OwnB B w v L ∧ L.length ≤ N ∧ B ≤ w.heap.size
theorem OwnN.nil (B : Nat) (w : World) (h : B ≤ w.heap.size) : OwnN B 0 w (.slice none 0 0) [] := ⟨OwnB.nil B w, Nat.le_refl _, h⟩
theorem OwnN.ext {B N : Nat} {w w' : World} {v : Value} {L : List UInt8} (h : OwnN B N w v L) (hE : Ext w w') : OwnN B N w' v L := ⟨h.1.ext hE, h.2.1, Nat.le_trans h.2.2 hE.le⟩
theorem OwnN.re {B N : Nat} {w : World} {v : Value} {L L' : List UInt8} (h : OwnN B N w v L) (e : L = L') : OwnN B N w v L' := e ▸ h
theorem rintN {B N : Nat} {w : World} {v : Value} {L : List UInt8} (h : OwnN B N w v L) (hN : N ≤ 1073741824) (x : Int) :
    Calls Tryd.prog 39 #[v, .int .i64 x] w fun e w' => ∃ u, e = .returned u ∧ OwnN B (N + 8) w' u (L ++ num8 x) ∧ Ext w w' := by
  obtain ⟨hO, hL, hB⟩ := h
  obtain ⟨A, c, rfl, h1, h2⟩ := hO.sl
  refine (refInt_any w A c L h2 h1 (by omega) x).mono ?_
  rintro e w' ⟨u, rfl, hu, hE⟩
  refine ⟨u, rfl, ⟨?_, by rw [List.length_append, num8_len]; omega, Nat.le_trans hB hE.le⟩, hE⟩
  unfold OwnB
  rw [List.length_append, num8_len]
  exact own_base hu hB
theorem rtextN {B N : Nat} {w : World} {v : Value} {L : List UInt8} (h : OwnN B N w v L) (hN : N ≤ 1073741824) (s : ByteArray) (hs : s.size ≤ 1048576) :
    Calls Tryd.prog 40 #[v, .string s] w fun e w' => ∃ u, e = .returned u ∧ OwnN B (N + 1048584) w' u (L ++ txtB s) ∧ Ext w w' := by
  obtain ⟨hO, hL, hB⟩ := h
  obtain ⟨A, c, rfl, h1, h2⟩ := hO.sl
  refine (refText_any w A c L h2 h1 (by omega) s (by omega)).mono ?_
  rintro e w' ⟨u, rfl, hu, hE⟩
  refine ⟨u, rfl, ⟨?_, by rw [List.length_append, txtB_len]; omega, Nat.le_trans hB hE.le⟩, hE⟩
  unfold OwnB txtB
  have e1 : s.data.toList.length = s.size := by rw [Array.length_toList]; rfl
  rw [List.length_append, List.length_append, num8_len, e1, ← Nat.add_assoc, ← List.append_assoc]
  exact own_base hu hB
end Go.Proofs.YtjcpgjnogcmalaaDoor

/-! Rows of bytes: held against one another, copied, written over, counted. -/
namespace Go.Proofs.YtjcpgjnogcmalaaDoor
set_option linter.unusedVariables false
set_option linter.unusedSimpArgs false
open Go.RowKit
def rdB : Rd (List UInt8) := Rd.slice Rd.u8
def rdN : Rd (List (List UInt8)) := Rd.slice rdB
theorem n_get {w : World} {A : Option Addr} {n : Nat} {l : List (List UInt8)} (h : rdB.Sl w A n l) (k : Nat) (hk : k < n) : ∃ b o A' c', A = some ⟨b, o, none⟩ ∧ w.cell? ⟨b, o + k, none⟩ = some (.slice A' (l[k]'(by rw [h.1]; exact hk)).length c') ∧ (l[k]'(by rw [h.1]; exact hk)).length ≤ c' ∧ Rd.u8.Sl w A' (l[k]'(by rw [h.1]; exact hk)).length (l[k]'(by rw [h.1]; exact hk)) := by
  obtain ⟨b, o, cs, e, ⟨A', c', hK, hl, hS⟩, hc⟩ := h.get k hk
  have h0 := hc 0 _ (by rw [hK]; rfl)
  refine ⟨b, o, A', c', e, ?_, hl, hS⟩
  simpa [rdB, Rd.slice] using h0
theorem own_nested {w : World} {lo hi base : Nat} {e : TypeId} {v : Value} {l : List (List UInt8)} {vs : List Value} (h : w.ownsRow base e 1 v l.length vs) (hb : lo ≤ base) (hh : w.heap.size ≤ hi) (he : ∀ i (h : i < l.length), ∃ u, vs[i]? = some u ∧ rdB.K (only w lo hi) l[i] [u]) : ∃ A c, v = .slice A l.length c ∧ l.length ≤ c ∧ rdB.Sl (only w lo hi) A l.length l := by
  obtain ⟨hl, ⟨rfl, hn⟩ | ⟨g, cap, cur, rfl, hbg, hc, hle, hm, hs, ht⟩⟩ := h
  · have hl0 : l = [] := List.eq_nil_of_length_eq_zero hn
    subst hl0
    exact ⟨none, 0, rfl, Nat.le_refl _, Rd.Sl.none _ _ none⟩
  · have hg : g < hi := Nat.lt_of_lt_of_le (Array.getElem?_eq_some_iff.1 hc).1 hh
    refine ⟨some ⟨g, 0, none⟩, cap, rfl, hle, rfl, fun _ => ⟨g, 0, rfl, fun i hi' => ?_⟩⟩
    obtain ⟨u, hu, hK⟩ := he i hi'
    refine ⟨[u], hK, fun j x hx => ?_⟩
    obtain ⟨rfl, rfl⟩ : j = 0 ∧ x = u := by
      cases j with
      | zero => simp at hx; exact ⟨rfl, hx.symm⟩
      | succ j => simp at hx
    rw [← ht, Nat.mul_one, List.getElem?_take_of_lt hi'] at hu
    refine cell_only hc (Nat.le_trans hb hbg) hg ?_
    simpa [rdB, Rd.slice] using hu
theorem only_grow {w w' : World} {lo : Nat} (hE : Ext w w') : Cle (only w lo w.heap.size) (only w' lo w'.heap.size) := by
  rw [← only_ext (lo := lo) hE (Nat.le_refl _)]
  exact only_wide (Nat.le_refl _) hE.le
end Go.Proofs.YtjcpgjnogcmalaaDoor

/-! Rows of bytes: written over, counted. -/
namespace Go.Proofs.YtjcpgjnogcmalaaDoor
set_option linter.unusedVariables false
set_option linter.unusedSimpArgs false
open Go.RowKit
/-- n cells from A on lie in the blocks from lo on, below hi, and may be written. -/
def RowAt (w : World) (lo hi : Nat) (A : Option Addr) (n : Nat) : Prop := ∀ k, k < n → ∃ b o v, A = some ⟨b, o, none⟩ ∧ (only w lo hi).cell? ⟨b, o + k, none⟩ = some v
def There (lo hi : Nat) (w w' : World) : Prop := ∀ p v, (only w lo hi).cell? p = some v → ∃ v', (only w' lo hi).cell? p = some v'
theorem There.refl (lo hi : Nat) (w : World) : There lo hi w w := fun p v h => ⟨v, h⟩
theorem There.trans {lo hi : Nat} {a b c : World} (h : There lo hi a b) (k : There lo hi b c) : There lo hi a c := fun p v hv => by
  obtain ⟨v1, h1⟩ := h p v hv
  exact k p v1 h1
theorem There.ext {lo hi : Nat} {w w' : World} (h : Ext w w') (hh : hi ≤ w.heap.size) : There lo hi w w' := fun p v hv => ⟨v, by rw [only_ext h hh]; exact hv⟩
theorem There.set {lo hi : Nat} {w : World} (q : Addr) (u : Value) : There lo hi w (w.setCell q u) := fun p v hv => by
  have hs := only_spot hv
  obtain ⟨a, b, hc, _, cs, t, hh⟩ := only_cell hv
  obtain ⟨pb, po, ps⟩ := p
  obtain rfl : ps = none := hs
  unfold World.cell? at hc
  rw [hh] at hc
  simp only [Option.isSome_none, Bool.false_eq_true, if_false] at hc
  by_cases e : q.block = pb
  · have hlt := (Array.getElem?_eq_some_iff.1 hc).1
    have hb : (w.setCell q u).heap[pb]? = some (.cells (if q.spot.isSome then cs else cs.setIfInBounds q.off u) t (0, 0)) := by
      simp only [World.setCell, Array.getElem?_modify]
      rw [if_pos e]
      simp only at hh
      rw [hh]
      rfl
    have hz : po < (if q.spot.isSome then cs else cs.setIfInBounds q.off u).size := by split <;> simpa using hlt
    exact ⟨_, cell_only hb a b (Array.getElem?_eq_getElem hz)⟩
  · have hb : (w.setCell q u).heap[pb]? = some (.cells cs t (0, 0)) := by
      simp only [World.setCell, Array.getElem?_modify]
      rw [if_neg e]
      exact hh
    exact ⟨v, cell_only hb a b hc⟩
theorem Kind.there {lo hi : Nat} {w w' : World} (k : Kind w w') : There lo hi w w' := fun p v hv => by
  obtain ⟨v', h, _⟩ := k.only hv
  exact ⟨v', h⟩
theorem RowAt.there {lo hi : Nat} {w w' : World} {A : Option Addr} {n : Nat} (h : RowAt w lo hi A n) (k : There lo hi w w') : RowAt w' lo hi A n := fun i hi => by
  obtain ⟨b, o, v, e, hv⟩ := h i hi
  obtain ⟨v', hv'⟩ := k _ _ hv
  exact ⟨b, o, v', e, hv'⟩
theorem rowAt_nested {w : World} {lo hi : Nat} {A : Option Addr} {n : Nat} {l : List (List UInt8)} (h : rdB.Sl (only w lo hi) A n l) : RowAt w lo hi A n := fun k hk => by
  obtain ⟨b, o, A', c', e, hv, _⟩ := n_get h k hk
  exact ⟨b, o, _, e, hv⟩
def allN : List (List UInt8) → Nat → Nat
  | [], n => n
  | x :: l, n => allN l (min (n + x.length + 1) 1099511627776)
theorem allN_le : ∀ (l : List (List UInt8)) (n : Nat), n ≤ 1099511627776 → allN l n ≤ 1099511627776
  | [], n, h => h
  | x :: l, n, h => allN_le l _ (Nat.min_le_right _ _)
theorem allN_ge : ∀ (l : List (List UInt8)) (n : Nat), n ≤ 1099511627776 → n ≤ allN l n
  | [], n, h => Nat.le_refl _
  | x :: l, n, h => Nat.le_trans (by omega : n ≤ min (n + x.length + 1) 1099511627776) (allN_ge l _ (Nat.min_le_right _ _))
theorem allN_mem : ∀ (l : List (List UInt8)) (n : Nat), n ≤ 1099511627776 → allN l n < 1099511627776 → ∀ x ∈ l, n + x.length < allN l n
  | y :: l, n, h, hb, x, hx => by
    have h1 := allN_ge l (min (n + y.length + 1) 1099511627776) (Nat.min_le_right _ _)
    have e : allN (y :: l) n = allN l (min (n + y.length + 1) 1099511627776) := rfl
    rcases List.mem_cons.1 hx with rfl | hx
    · rw [e] at hb ⊢; omega
    · have := allN_mem l (min (n + y.length + 1) 1099511627776) (Nat.min_le_right _ _) hb x hx
      rw [e] at hb ⊢; omega
theorem allN_take (l : List (List UInt8)) : ∀ (k : Nat) (n : Nat) (h : k < l.length), allN (l.take (k + 1)) n = min (allN (l.take k) n + l[k].length + 1) 1099511627776 := by
  induction l with
  | nil => intro k n h; simp at h
  | cons x l ih =>
    intro k n h
    cases k with
    | zero => rfl
    | succ k => exact ih k _ (by simpa using h)
end Go.Proofs.YtjcpgjnogcmalaaDoor

/-! The program's reader of bytes. -/
namespace Go.Proofs.YtjcpgjnogcmalaaDoor
set_option linter.unusedVariables false
set_option linter.unusedSimpArgs false
open Go.RowKit
/-- At block g stands a reader: its bytes lie in the blocks from lo, below g; bytes that are left, the error that has stuck. -/
def RdrAt (w : World) (lo g : Nat) (bs : List UInt8) (why : Int) : Prop :=
  ∃ A c, Blk w g 89 #[.slice A bs.length c, .int .i64 why] ∧ bs.length ≤ c ∧ c ≤ maxLen ∧ Rd.u8.Sl (only w lo g) A bs.length bs
theorem RdrAt.exc {w w' : World} {lo g l h : Nat} {bs : List UInt8} {why : Int} (hR : RdrAt w lo g bs why) (hX : Exc l h w w') (hd : g < l ∨ (h ≤ lo ∧ h ≤ g)) : RdrAt w' lo g bs why := by
  obtain ⟨A, c, hB, h1, h2, h3⟩ := hR
  have hg := hB.lt
  refine ⟨A, c, (hX.block g hg (by omega)).trans hB, h1, h2, ?_⟩
  rw [hX.only (Nat.le_of_lt hg) (by omega)]
  exact h3
theorem RdrAt.ext {w w' : World} {lo g : Nat} {bs : List UInt8} {why : Int} (hR : RdrAt w lo g bs why) (hE : Ext w w') : RdrAt w' lo g bs why := by
  obtain ⟨A, c, hB, h1, h2, h3⟩ := hR
  refine ⟨A, c, hE.blk hB, h1, h2, ?_⟩
  rw [only_ext hE (Nat.le_of_lt hB.lt)]
  exact h3
/-- What is read and what is left: (the bytes, left, why). -/
def takeG (n : Nat) (bs : List UInt8) (why : Int) : List UInt8 × List UInt8 × Int :=
  if bs.length < n then ([], if why = 0 then ([], 4) else (bs, why)) else (bs.take n, bs.drop n, why)
set_option maxHeartbeats 1000000 in
set_option maxRecDepth 100000 in
theorem stick_any (w : World) (lo g : Nat) (bs : List UInt8) (why : Int) (hR : RdrAt w lo g bs why) (x : Int) :
    Calls Tryd.prog 92 #[.pointer (some ⟨g, 0, none⟩), .int .i64 x] w fun e w' => e = .returned (.tuple #[]) ∧ RdrAt w' lo g (if why = 0 then [] else bs) (if why = 0 then x else why) ∧ Exc g (g + 1) w w' := by
  obtain ⟨A, c, hB, h1, h2, h3⟩ := id hR
  have x0 := hB.cell 0 (v := .slice A bs.length c) rfl
  have x1 := hB.cell 1 (v := .int .i64 why) rfl
  have f0 := hB.frozen 0
  have f1 := hB.frozen 1
  by_cases h : why = 0
  · subst h
    have hB2 := (hB.set_ 1 (.int .i64 x)).set_ 0 (.slice none 0 0)
    have hX : Exc g (g + 1) w ((w.setCell ⟨g, 1, none⟩ (.int .i64 x)).setCell ⟨g, 0, none⟩ (.slice none 0 0)) := (Exc.setCell (Nat.le_refl g) (Nat.lt_succ_self g) _).trans (Exc.setCell (Nat.le_refl g) (Nat.lt_succ_self g) _)
    generalize bs.length = n at *
    clear h3
    go_enter Tryd.func92, Tryd.ntmps92
    go_wp2_with fail
    go_end0
    exact ⟨rfl, ⟨none, 0, hB2, Nat.le_refl _, by decide, Rd.Sl.none _ _ none⟩, hX⟩
  · have hz : (why == 0) = false := by simpa using h
    rw [if_neg h, if_neg h]
    generalize bs.length = n at *
    go_enter Tryd.func92, Tryd.ntmps92
    go_wp2_with fail
    go_end0
    exact ⟨rfl, hR, Exc.refl _ _ _⟩
theorem run_slice_to2 {P : Program} {t e : TypeId} {sz bytes : Nat} (E : Elt P t e sz bytes) (A : Option Addr) (n c i : Nat) (h : i ≤ n) (hc : n ≤ c) (w : World) : (Instr.sliceAt t (.slice A n c) none (some (.int .i64 i)) (some (.int .i64 i))).run P w = .ok (.slice A i i) w := by
  obtain ⟨inf, z, hi, hz, hsz, hby, hzc⟩ := E.hi
  have h0 := E.ht
  have he : P.elem t = e := by simp [Program.elem, h0]
  have h2 : P.underlying t = some (.slice (P.elem t)) := by rw [he]; exact h0
  rw [run_sliceAt_slice _ t _ _ _ _ h2, run_slice_hm _ t A n c h2 .i64 .i64 i i (by omega) (by omega) (by omega), he]
  simp [sizeOf, typeInfo, hi, hsz, sliced, Result.andThen, Addr.add]
theorem wpList_slice_to2 {P : Program} {t e : TypeId} {sz bytes : Nat} {w : World} {ops : Array Oper} {rest : List Oper} {o : Oper} {a : Act} {Q : Exit → Act → World → Prop} (hgd : o.guard = none) (E : Elt P t e sz bytes) (x y z : Operand) (ho : o.op = .slice t x none (some y) (some z))
    (A : Option Addr) (n c i : Nat) (hx : a.eval x = .slice A n c) (hy : a.eval y = .int .i64 (i : Int)) (hz : a.eval z = .int .i64 (i : Int)) (h : i ≤ n) (hc : n ≤ c) (k : wpList P ops Q rest (a.put o.dst (.slice A i i)) w) : wpList P ops Q (o :: rest) a w :=
  wpList_plain hgd fun K hK => by
    unfold Oper.wp execOp
    simp [ho, hx, hy, hz, run_slice_to2 E A n c i h hc w, Oper.upon]
    exact hK _ _ k
/-- What a reading method leaves: bytes in the reader's blocks, and the reader. -/
def TakeP (lo g : Nat) (w : World) (r : List UInt8 × List UInt8 × Int) (e : Ending) (w' : World) : Prop := ∃ A c, e = .returned (.slice A r.1.length c) ∧ r.1.length ≤ c ∧ Rd.u8.Sl (only w' lo g) A r.1.length r.1 ∧ RdrAt w' lo g r.2.1 r.2.2 ∧ Exc g (g + 1) w w'
set_option maxHeartbeats 1000000 in
set_option maxRecDepth 100000 in
theorem take_any (w : World) (lo g : Nat) (bs : List UInt8) (why : Int) (hR : RdrAt w lo g bs why) (n : Nat) (hn : n ≤ 1099511627776) :
    Calls Tryd.prog 91 #[.pointer (some ⟨g, 0, none⟩), .int .i64 n] w (TakeP lo g w (takeG n bs why)) := by
  obtain ⟨A, c, hB, h1, h2, h3⟩ := id hR
  have x0 := hB.cell 0 (v := .slice A bs.length c) rfl
  have f0 := hB.frozen 0
  unfold maxLen at h2
  obtain ⟨r, hr⟩ : ∃ r, takeG n bs why = r := ⟨_, rfl⟩
  rw [hr]
  by_cases h : bs.length < n
  · have hst := stick_any w lo g bs why hR 4
    have hr1 : r = ([], if why = 0 then [] else bs, if why = 0 then 4 else why) := by
      rw [← hr]; unfold takeG; rw [if_pos h]; split <;> rfl
    have HR := Lib.hid hr1
    clear hr hr1
    obtain ⟨m, hm⟩ : ∃ m, bs.length = m := ⟨_, rfl⟩
    rw [hm] at x0 h h1
    clear hR hB h3 hm
    go_enter Tryd.func91, Tryd.ntmps91
    go_wp2_with (go_at_call 92; (with_reducible refine hst.mono ?_); rintro e w1 ⟨rfl, hR1, hX1⟩)
    go_ret
    rw [HR.out]
    exact ⟨none, 0, rfl, Nat.le_refl _, Rd.Sl.none _ _ none, hR1, hX1⟩
  · have hr1 : r = (bs.take n, bs.drop n, why) := by
      rw [← hr]; unfold takeG; rw [if_neg h]
    have HR := Lib.hid hr1
    clear hr hr1
    have hl : (bs.take n).length = n := by rw [List.length_take]; omega
    have hl2 : (bs.drop n).length = bs.length - n := by rw [List.length_drop]
    have hS1 : Rd.u8.Sl (only w lo g) A n (bs.take n) := ⟨hl, fun h0 => by
      obtain ⟨b, o, e, hc⟩ := h3.2 (by omega)
      refine ⟨b, o, e, fun i hi => ?_⟩
      rw [hl] at hi
      rw [List.getElem_take]
      exact hc i (by omega)⟩
    have hS2 := sl_rest h3 c n (by omega) h1
    have hB2 := hB.set_ 0 (.slice (restA A c n 1) (bs.length - n) (c - n))
    have hX : Exc g (g + 1) w (w.setCell ⟨g, 0, none⟩ (.slice (restA A c n 1) (bs.length - n) (c - n))) := Exc.setCell (Nat.le_refl g) (Nat.lt_succ_self g) _
    have hO := hX.only (l := lo) (h := g) (Nat.le_of_lt hB.lt) (.inl (Nat.le_refl _))
    rw [← hO] at hS1 hS2
    have hfin : RdrAt (w.setCell ⟨g, 0, none⟩ (.slice (restA A c n 1) (bs.length - n) (c - n))) lo g (bs.drop n) why := ⟨restA A c n 1, c - n, by rw [hl2]; exact hB2, by rw [hl2]; omega, by unfold maxLen; omega, by rw [hl2]; exact hS2⟩
    obtain ⟨m, hm⟩ : ∃ m, bs.length = m := ⟨_, rfl⟩
    rw [hm] at x0 h h1 hfin hX hO hS1
    have hl := Lib.hid hl
    clear hR hB h3 hm hS2 hB2 hO hl2
    go_enter Tryd.func91, Tryd.ntmps91
    go_wp2_with (first | (refine wpList_slice_to2 rfl elt_bytes (.tmp 18) (.tmp 19) (.tmp 20) rfl A m c n rfl rfl rfl (by omega) h1 ?_) | (refine wpList_slice_from rfl elt_bytes (.tmp 26) (.tmp 27) rfl A m c n rfl rfl (by omega) ?_))
    go_ret
    rw [HR.out]
    refine ⟨A, n, ?_, ?_, ?_, hfin, hX⟩
    · show _ = Ending.returned (.slice A (bs.take n).length n)
      rw [hl.out]; rfl
    · show (bs.take n).length ≤ n
      rw [hl.out]; exact Nat.le_refl _
    · show Rd.u8.Sl _ A (bs.take n).length (bs.take n)
      rw [hl.out]; exact hS1
set_option maxHeartbeats 1000000 in
set_option maxRecDepth 100000 in
theorem bad_any (w : World) (lo g : Nat) (bs : List UInt8) (why : Int) (hR : RdrAt w lo g bs why) :
    Calls Tryd.prog 36 #[.pointer (some ⟨g, 0, none⟩)] w fun e w' => e = .returned (.bool (why != 0)) ∧ w = w' := by
  obtain ⟨A, c, hB, -⟩ := hR
  have x1 := hB.cell 1 (v := .int .i64 why) rfl
  clear hB
  go_enter Tryd.func36, Tryd.ntmps36
  go_wp2_with fail
  go_ret
  exact ⟨rfl, rfl⟩
set_option maxHeartbeats 1000000 in
set_option maxRecDepth 100000 in
theorem end_any (w : World) (lo g : Nat) (bs : List UInt8) (why : Int) (hR : RdrAt w lo g bs why) :
    Calls Tryd.prog 37 #[.pointer (some ⟨g, 0, none⟩)] w fun e w' => e = .returned (.int .i64 (if 0 < bs.length then 5 else why)) ∧ w = w' := by
  obtain ⟨A, c, hB, h1, h2, -⟩ := hR
  have x0 := hB.cell 0 (v := .slice A bs.length c) rfl
  have x1 := hB.cell 1 (v := .int .i64 why) rfl
  clear hB
  unfold maxLen at h2
  generalize bs.length = n at *
  by_cases h : 0 < n
  · rw [if_pos h]
    go_enter Tryd.func37, Tryd.ntmps37
    go_wp2_with fail
    go_ret
    exact ⟨rfl, rfl⟩
  · rw [if_neg h]
    obtain rfl : n = 0 := by omega
    go_enter Tryd.func37, Tryd.ntmps37
    go_wp2_with fail
    go_ret
    exact ⟨rfl, rfl⟩
end Go.Proofs.YtjcpgjnogcmalaaDoor

/-! The program's reader: numbers, counts, bytes, texts. -/
namespace Go.Proofs.YtjcpgjnogcmalaaDoor
set_option linter.unusedVariables false
set_option linter.unusedSimpArgs false
open Go.RowKit
def beN (p : List UInt8) : Nat := p.foldl (fun v x => v * 256 + x.toNat) 0
theorem beN_snoc (p : List UInt8) (x : UInt8) : beN (p ++ [x]) = beN p * 256 + x.toNat := by
  unfold beN; rw [List.foldl_append]; rfl
theorem beN_aux : ∀ (p : List UInt8) (v : Nat), p.foldl (fun v x => v * 256 + x.toNat) v < (v + 1) * 256 ^ p.length
  | [], v => by simp
  | x :: l, v => by
    have h := beN_aux l (v * 256 + x.toNat)
    have hx := x.toNat_lt
    rw [List.foldl_cons, List.length_cons, Nat.pow_succ]
    refine Nat.lt_of_lt_of_le h ?_
    generalize 256 ^ l.length = q
    rw [Nat.mul_comm q 256, ← Nat.mul_assoc]
    exact Nat.mul_le_mul_right _ (by omega)
theorem beN_lt (p : List UInt8) : beN p < 256 ^ p.length := by
  have := beN_aux p 0
  simpa [beN] using this
theorem or_byte (m x : Nat) (hm : m < 72057594037927936) (hx : x < 256) : bits .or .u64 ((m : Int) * 256) (x : Int) = ((m * 256 + x : Nat) : Int) := by
  rw [bits_join .u64 64 (by decide) (fun n h0 h1 => by rw [IntKind.wrap_u64]; omega) 8 _ _ (by omega) (by omega) (by omega) (by omega) (by omega) (by omega)]
  omega
def intG (bs : List UInt8) (why : Int) : Int × List UInt8 × Int := (wrap64 (beN (takeG 8 bs why).1), (takeG 8 bs why).2)
def IntP (g : Nat) (lo : Nat) (w : World) (r : Int × List UInt8 × Int) (e : Ending) (w' : World) : Prop := e = .returned (.int .i64 r.1) ∧ RdrAt w' lo g r.2.1 r.2.2 ∧ Exc g (g + 1) w w'
theorem takeG_len (n : Nat) (bs : List UInt8) (why : Int) : (takeG n bs why).1.length ≤ n := by
  unfold takeG; split
  · exact Nat.zero_le _
  · exact List.length_take_le _ _
set_option maxHeartbeats 1000000 in
set_option maxRecDepth 100000 in
theorem int_any (w : World) (lo g : Nat) (bs : List UInt8) (why : Int) (hR : RdrAt w lo g bs why) :
    Calls Tryd.prog 67 #[.pointer (some ⟨g, 0, none⟩)] w (IntP g lo w (intG bs why)) := by
  have ht := take_any w lo g bs why hR 8 (by omega)
  rw [show ((8 : Nat) : Int) = 8 from rfl] at ht
  have hl := takeG_len 8 bs why
  obtain ⟨r, hr⟩ : ∃ r, takeG 8 bs why = r := ⟨_, rfl⟩
  unfold intG
  rw [hr] at ht hl ⊢
  obtain ⟨p, q⟩ := r
  clear hR hr
  simp only at hl
  go_enter Tryd.func67, Tryd.ntmps67
  go_wp2_with (go_at_call 91; (with_reducible refine ht.mono ?_); rintro e w1 ⟨A, c, rfl, h1c, h1S, hR1, hX1⟩)
  obtain ⟨n, hn⟩ : ∃ n, p.length = n := ⟨_, rfl⟩
  have h1S := h1S.mono only_cle
  rw [hn] at hl h1c h1S
  simp only [hn]
  go_loop [3, 9] (fun s i => ∃ k m : Nat, k ≤ n ∧ i = .int .i64 k ∧ m = beN (p.take k) ∧ s = .int .u64 m) (fun _ i => n - (intOf i).toNat)
  case atStart => exact ⟨0, 0, by omega, rfl, rfl, rfl⟩
  case round =>
    obtain ⟨k, m, hkn, rfl, hm, rfl⟩ := hrel
    by_cases hlt : k < n
    · obtain ⟨b, o, rfl, x0⟩ := b_get h1S k hlt
      have hs := beN_snoc (p.take k) (p[k]'(by omega))
      rw [← List.take_succ_eq_append_getElem, ← hm] at hs
      have hb := beN_lt (p.take k)
      rw [← hm, List.length_take, Nat.min_eq_left (by omega)] at hb
      have hb2 : m < 72057594037927936 := Nat.lt_of_lt_of_le hb (by
        have : k ≤ 7 := by omega
        exact Nat.pow_le_pow_right (by decide) this)
      generalize p[k]'(by omega) = x at *
      have hx := x.toNat_lt
      have HS := Lib.hid hs
      have HJ := Lib.hid (or_byte m x.toNat hb2 hx)
      clear hm hs hb h1S
      go_wp2_with fail
      go_round
      case rel => exact ⟨k + 1, m * 256 + x.toNat, by omega, by go_num, HS.out.symm, by rw [HJ.out]⟩
      case measure => simp [intOf]; omega
    · obtain rfl : k = n := by omega
      rw [← hn, List.take_length] at hm
      clear h1S
      go_wp2_with fail
      go_ret
      exact ⟨rfl, hR1, hX1⟩
def countG (most : Int) (bs : List UInt8) (why : Int) : Int × List UInt8 × Int :=
  let r := intG bs why
  if r.2.2 = 0 then (if r.1 < 0 ∨ most < r.1 then (0, [], 3) else r) else (0, r.2)
set_option maxHeartbeats 1000000 in
set_option maxRecDepth 100000 in
theorem count_any (w : World) (lo g : Nat) (bs : List UInt8) (why : Int) (hR : RdrAt w lo g bs why) (most : Int) :
    Calls Tryd.prog 68 #[.pointer (some ⟨g, 0, none⟩), .int .i64 most] w (IntP g lo w (countG most bs why)) := by
  have ht := int_any w lo g bs why hR
  unfold countG
  obtain ⟨r, hr⟩ : ∃ r, intG bs why = r := ⟨_, rfl⟩
  rw [hr] at ht ⊢
  obtain ⟨v, q, y⟩ := r
  clear hR hr
  obtain ⟨z, hz⟩ : ∃ z, (if y = 0 then (if v < 0 ∨ most < v then ((0 : Int), ([] : List UInt8), (3 : Int)) else (v, q, y)) else (0, q, y)) = z := ⟨_, rfl⟩
  show Calls _ _ _ _ (IntP g lo w (if y = 0 then (if v < 0 ∨ most < v then ((0 : Int), ([] : List UInt8), (3 : Int)) else (v, q, y)) else (0, q, y)))
  rw [hz]
  go_enter Tryd.func68, Tryd.ntmps68
  go_upto_region 2 with (go_at_call 67; (with_reducible refine ht.mono ?_); rintro e w1 ⟨rfl, hR1, hX1⟩)
  have hb := bad_any w1 lo g q y hR1
  have hs := stick_any w1 lo g q y hR1 3
  obtain ⟨A, c, hB, h1, h2, h3⟩ := id hR1
  have x1 := hB.cell 1 (v := .int .i64 y) rfl
  clear hB h3 h1 h2
  by_cases hy : y = 0
  · rw [if_pos hy] at hz
    subst hy
    by_cases hv : v < 0 ∨ most < v
    · rw [if_pos hv] at hz
      rw [if_pos rfl, if_pos rfl] at hs
      have hb3 := fun w2 (h : RdrAt w2 lo g [] 3) => bad_any w2 lo g [] 3 h
      have HZ := Lib.hid hz
      clear hz hb
      go_wp2_with (first | (go_at_call 92; (with_reducible refine hs.mono ?_); rintro e w2 ⟨rfl, hR2, hX2⟩) | (go_at_call 36; (with_reducible refine (hb3 _ hR2).mono ?_); rintro e w3 ⟨rfl, rfl⟩))
      all_goals go_ret
      all_goals (rw [← HZ.out]; exact ⟨rfl, hR2, hX1.trans hX2⟩)
    · rw [if_neg hv] at hz
      have HZ := Lib.hid hz
      have hv1 : ¬ v < 0 := fun h => hv (.inl h)
      have hv2 : ¬ most < v := fun h => hv (.inr h)
      clear hz hs hv
      go_wp2_with (go_at_call 36; (with_reducible refine hb.mono ?_); rintro e w3 ⟨rfl, rfl⟩)
      go_ret
      rw [← HZ.out]
      exact ⟨rfl, hR1, hX1⟩
  · rw [if_neg hy] at hz
    have HZ := Lib.hid hz
    have hy1 : (y == 0) = false := by simpa using hy
    have hy2 : (y != 0) = true := by simpa using hy
    clear hz hs
    go_wp2_with (go_at_call 36; (with_reducible refine hb.mono ?_); rintro e w3 ⟨rfl, rfl⟩)
    go_ret
    rw [← HZ.out]
    exact ⟨rfl, hR1, hX1⟩
end Go.Proofs.YtjcpgjnogcmalaaDoor

/-! The program's reader: bytes, texts, and its beginning. -/
namespace Go.Proofs.YtjcpgjnogcmalaaDoor
set_option linter.unusedVariables false
set_option linter.unusedSimpArgs false
open Go.RowKit
theorem run_to_string (w : World) (A : Option Addr) (n c : Nat) (l : List UInt8) (hS : Rd.u8.Sl w A n l) : (convert 40 9 (.slice A n c)).run Tryd.prog w = .ok (.string ⟨l.toArray⟩) w := by
  have hn := hS.1
  subst hn
  cases A with
  | none =>
    rw [run_convert_bytes_nil w 40 5 Tryd.underlying40 Tryd.underlying5 _ c _ Tryd.underlying9]
    have hl : l = [] := by
      rcases Nat.eq_zero_or_pos l.length with h0 | h0
      · exact List.eq_nil_of_length_eq_zero h0
      · obtain ⟨b, o, e, _⟩ := hS.2 h0; cases e
    subst hl
    rfl
  | some ad =>
    refine run_convert_bytes_back w 40 9 5 ad c l Tryd.underlying40 Tryd.underlying5 Tryd.underlying9 fun j hj => ?_
    have hc := (b_cells hS).2.2 ad rfl j (.int .u8 l[j].toNat) (by
      have := flat_get (f := encB) (sz := 1) encB_len l j 0 hj (by decide)
      rw [Nat.mul_one, Nat.add_zero] at this
      rw [this]; rfl)
    exact hc
theorem wpList_to_string {w : World} {ops : Array Oper} {rest : List Oper} {o : Oper} {a : Act} {Q : Exit → Act → World → Prop} (hgd : o.guard = none) (x : Operand) (ho : o.op = .convert 40 9 x) (A : Option Addr) (n c : Nat) (l : List UInt8) (hx : a.eval x = .slice A n c) (hS : Rd.u8.Sl w A n l)
    (k : wpList Tryd.prog ops Q rest (a.put o.dst (.string ⟨l.toArray⟩)) w) : wpList Tryd.prog ops Q (o :: rest) a w :=
  wpList_plain hgd fun K hK => by
    unfold Oper.wp execOp
    simp [ho, hx, run_to_string w A n c l hS, Oper.upon]
    exact hK _ _ k
theorem countG_bd (most : Int) (bs : List UInt8) (why : Int) (h : (countG most bs why).2.2 = 0) : 0 ≤ (countG most bs why).1 ∧ (countG most bs why).1 ≤ most := by
  unfold countG at *
  generalize intG bs why = r at *
  simp only at *
  split at h
  · rename_i h0
    rw [if_pos h0]
    split at h
    · cases h
    · rename_i h1
      rw [if_neg h1]
      omega
  · rename_i h0
    exact absurd h h0
def blobG (most : Int) (bs : List UInt8) (why : Int) : List UInt8 × List UInt8 × Int :=
  if (countG most bs why).2.2 = 0 then takeG (countG most bs why).1.toNat (countG most bs why).2.1 0 else ([], (countG most bs why).2)
set_option maxHeartbeats 1000000 in
set_option maxRecDepth 100000 in
theorem blob_any (w : World) (lo g : Nat) (bs : List UInt8) (why : Int) (hR : RdrAt w lo g bs why) (most : Int) (hm : most ≤ 1099511627776) :
    Calls Tryd.prog 90 #[.pointer (some ⟨g, 0, none⟩), .int .i64 most] w (TakeP lo g w (blobG most bs why)) := by
  have ht := count_any w lo g bs why hR most
  have hbd := countG_bd most bs why
  unfold blobG
  obtain ⟨r, hr⟩ : ∃ r, countG most bs why = r := ⟨_, rfl⟩
  rw [hr] at ht hbd ⊢
  obtain ⟨v, q, y⟩ := r
  clear hR hr
  simp only at hbd
  show Calls _ _ _ _ (TakeP lo g w (if y = 0 then takeG v.toNat q 0 else ([], q, y)))
  obtain ⟨z, hz⟩ : ∃ z, (if y = 0 then takeG v.toNat q 0 else ([], q, y)) = z := ⟨_, rfl⟩
  rw [hz]
  go_enter Tryd.func90, Tryd.ntmps90
  go_upto_region 2 with (go_at_call 68; (with_reducible refine ht.mono ?_); rintro e w1 ⟨rfl, hR1, hX1⟩)
  have hb := bad_any w1 lo g q y hR1
  by_cases hy : y = 0
  · subst hy
    obtain ⟨n, rfl⟩ := Int.eq_ofNat_of_zero_le (hbd rfl).1
    have htk := take_any w1 lo g q 0 hR1 n (by have := (hbd rfl).2; omega)
    rw [if_pos rfl, Int.toNat_natCast] at hz
    rw [hz] at htk
    clear hz hbd
    go_wp2_with (first | (go_at_call 36; (with_reducible refine hb.mono ?_); rintro e w3 ⟨rfl, rfl⟩) | (go_at_call 91; (with_reducible refine htk.mono ?_); rintro e w3 ⟨A, c, rfl, h1, h2, h3, h4⟩))
    go_ret
    exact ⟨A, c, rfl, h1, h2, h3, hX1.trans h4⟩
  · rw [if_neg hy] at hz
    have HZ := Lib.hid hz
    have hy2 : (y != 0) = true := by simpa using hy
    clear hz hbd
    go_wp2_with (go_at_call 36; (with_reducible refine hb.mono ?_); rintro e w3 ⟨rfl, rfl⟩)
    go_ret
    rw [← HZ.out]
    exact ⟨none, 0, rfl, Nat.le_refl _, Rd.Sl.none _ _ none, hR1, hX1⟩
def textG (most : Int) (bs : List UInt8) (why : Int) : ByteArray × List UInt8 × Int := (⟨(blobG most bs why).1.toArray⟩, (blobG most bs why).2)
def TextP (lo g : Nat) (w : World) (r : ByteArray × List UInt8 × Int) (e : Ending) (w' : World) : Prop := e = .returned (.string r.1) ∧ RdrAt w' lo g r.2.1 r.2.2 ∧ Exc g (g + 1) w w'
set_option maxHeartbeats 1000000 in
set_option maxRecDepth 100000 in
theorem text_any (w : World) (lo g : Nat) (bs : List UInt8) (why : Int) (hR : RdrAt w lo g bs why) (most : Int) (hm : most ≤ 1099511627776) :
    Calls Tryd.prog 66 #[.pointer (some ⟨g, 0, none⟩), .int .i64 most] w (TextP lo g w (textG most bs why)) := by
  have ht := blob_any w lo g bs why hR most hm
  unfold textG
  obtain ⟨r, hr⟩ : ∃ r, blobG most bs why = r := ⟨_, rfl⟩
  rw [hr] at ht ⊢
  obtain ⟨p, q⟩ := r
  clear hR hr
  go_enter Tryd.func66, Tryd.ntmps66
  go_wp2_with (first | (go_at_call 90; (with_reducible refine ht.mono ?_); rintro e w1 ⟨A, c, rfl, h1, h2, h3, h4⟩; have h5 := h2.mono only_cle; simp only at h5; clear h1 h2) | (refine wpList_to_string rfl (.tmp 7) rfl A p.length c p rfl h5 ?_))
  go_ret
  exact ⟨rfl, h3, h4⟩
theorem eql_nil (w : World) (a : Option Addr) (n c : Nat) : (binOp .eql 40 (.slice a n c) (.slice none 0 0)).run Tryd.prog w = .ok (.bool a.isNone) w := by
  simp only [binOp]
  simp [Op.equal, Op.maxDepth, Lib.run_equalIn_slice_nil w 9999 40 5 a n c 0 0 Tryd.underlying40]
set_option maxHeartbeats 1000000 in
set_option maxRecDepth 100000 in
theorem clone_any (w : World) (A : Option Addr) (c : Nat) (l : List UInt8) (hS : Rd.u8.Sl w A l.length l) (hc : l.length ≤ c) (hn : l.length ≤ 4294967296) :
    Calls Tryd.prog 65 #[.slice A l.length c] w fun e w' => ∃ u, e = .returned u ∧ w'.ownsRow w.heap.size 5 1 u l.length (l.flatMap encB) ∧ Ext w w' := by
  have hcl := b_cells hS
  have h1 := encB_one l
  obtain ⟨n, hln⟩ : ∃ n, l.length = n := ⟨_, rfl⟩
  rw [hln] at hcl hc hn hS ⊢
  cases A with
  | none =>
    obtain rfl : n = 0 := hcl.2.1 rfl
    have hl : l = [] := List.eq_nil_of_length_eq_zero hln
    subst hl
    clear hcl hS hln h1
    have hq := fun w : World => eql_nil w (none : Option Addr) 0 c
    go_enter Tryd.func65, Tryd.ntmps65
    go_wp2_with fail
    go_ret
    exact ⟨_, rfl, World.ownsRow_nil _ _ _ _, Ext.refl _⟩
  | some ad =>
    generalize l.flatMap encB = L at *
    clear hS hln
    have hown0 := World.ownsRow_lit (w := w) (base := w.heap.size) (e := 5) (size := 1) #[] 0 (Nat.le_refl _) (by decide) rfl
    have hE0 : Ext w (w.alloc (.cells #[] 5)) := (Ext.refl w).alloc _
    have hcl1 : Cells (w.alloc (.cells #[] 5)) (some ad) n 1 L := ⟨hcl.1, hcl.2.1, fun a h j u hu => hE0.cellk (hcl.2.2 a h j u hu)⟩
    clear hcl
    have hq := fun w : World => eql_nil w (some ad) n c
    go_enter Tryd.func65, Tryd.ntmps65
    go_wp2_with (at_builtin; refine wpList_append_cells rfl elt_bytes (.tmp 5) (.tmp 6) rfl hown0 rfl rfl hcl1 h1 (by unfold maxLen; omega) (by omega) hE0.le ?_; intro v2 w2 hown2 hg2; have hE2 := grown_ext2 hE0 hown0 hg2 (Nat.le_refl _))
    go_ret
    exact ⟨_, rfl, by simpa using hown2, hE2⟩
set_option maxHeartbeats 1000000 in
set_option maxRecDepth 100000 in
theorem read_any (w : World) (A : Option Addr) (c : Nat) (l : List UInt8) (hS : Rd.u8.Sl w A l.length l) (hc : l.length ≤ c) (hn : l.length ≤ 4294967296) :
    Calls Tryd.prog 31 #[.slice A l.length c] w fun e w' => ∃ g, e = .returned (.pointer (some ⟨g, 0, none⟩)) ∧ RdrAt w' w.heap.size g l 0 ∧ w.heap.size ≤ g ∧ g + 1 = w'.heap.size ∧ Ext w w' := by
  have hcl := clone_any w A c l hS hc hn
  obtain ⟨n, hln⟩ : ∃ n, l.length = n := ⟨_, rfl⟩
  rw [hln] at hcl ⊢
  clear hS
  go_enter Tryd.func31, Tryd.ntmps31
  go_wp2_with (go_at_call 65; (with_reducible refine hcl.mono ?_); rintro e w1 ⟨u, rfl, hown, hE1⟩; obtain ⟨A1, c1, hu, h1, h2, h3⟩ := own_bytes (lo := w.heap.size) (hi := w1.heap.size) (l := l) (by rw [hln]; exact hown) (Nat.le_refl _) (Nat.le_refl _); rw [hln] at hu h1 h3; subst hu; clear hown hcl)
  go_ret
  refine ⟨w1.heap.size, rfl, ⟨A1, c1, ?_, by rw [hln]; exact h1, h2, ?_⟩, hE1.le, by simp, hE1.alloc _⟩
  · rw [hln]; exact Blk.new _ _ _
  · rw [hln, only_ext ((Ext.refl w1).alloc _) (Nat.le_refl _)]
    exact h3
end Go.Proofs.YtjcpgjnogcmalaaDoor

/-! The reader of the document's answer: it reads what the program's reads. -/
namespace Go.Proofs.YtjcpgjnogcmalaaDoor
set_option linter.unusedVariables false
set_option linter.unusedSimpArgs false
open Go.RowKit
theorem exec_slice_mid {P : Program} {t e : TypeId} {sz bytes : Nat} (E : Elt P t e sz bytes) {o : Oper} {a : Act} (x y z : Operand) (ho : o.op = .slice t x (some y) (some z) none) (A : Option Addr) (n c i j : Nat) (hx : a.eval x = .slice A n c) (hy : a.eval y = .int .i64 (i : Int)) (hz : a.eval z = .int .i64 (j : Int)) (hij : i ≤ j) (hjc : j ≤ c) (w : World) :
    (execOp a.eval o).run P w = .ok (.value (.slice (restA A c i sz) (j - i) (c - i))) w := by
  obtain ⟨inf, zz, hi, hz0, hsz, hby, hzc⟩ := E.hi
  have h0 := E.ht
  have he : P.elem t = e := by simp [Program.elem, h0]
  have h2 : P.underlying t = some (.slice (P.elem t)) := by rw [he]; exact h0
  unfold execOp
  simp only [ho, hx, hy, hz, Sem.run_bind, Option.map_some, Option.map_none]
  rw [run_sliceAt_slice _ t _ _ _ _ h2, run_slice_lh _ t A n c h2 .i64 .i64 i j (by omega) (by omega) (by omega), he]
  simp [sizeOf, typeInfo, hi, hsz, sliced, restA, Result.andThen]
end Go.Proofs.YtjcpgjnogcmalaaDoor

/-! The reader of the document's answer: numbers, counts, bytes, texts. -/
namespace Go.Proofs.YtjcpgjnogcmalaaDoor
set_option linter.unusedVariables false
set_option linter.unusedSimpArgs false
open Go.RowKit
end Go.Proofs.YtjcpgjnogcmalaaDoor

/-! Readers of bytes, step by step: what each step reads and leaves. -/
namespace Go.Proofs.YtjcpgjnogcmalaaDoor
set_option linter.unusedVariables false
set_option linter.unusedSimpArgs false
open Go.RowKit
abbrev St := List UInt8 × Int
def intS (s : St) : Int × St := intG s.1 s.2
def textS (most : Int) (s : St) : ByteArray × St := textG most s.1 s.2
def countS (most : Int) (s : St) : Int × St := countG most s.1 s.2
def blobS (most : Int) (s : St) : List UInt8 × St := blobG most s.1 s.2
def endS (s : St) : Int := if 0 < s.1.length then 5 else s.2
def blobsS (most : Int) : Nat → St → List (List UInt8) × St
  | 0, s => ([], s)
  | k + 1, s => ((blobsS most k s).1 ++ [(blobS most (blobsS most k s).2).1], (blobS most (blobsS most k s).2).2)
theorem intS_bd (s : St) : -9223372036854775808 ≤ (intS s).1 ∧ (intS s).1 ≤ 9223372036854775807 := by
  show -9223372036854775808 ≤ wrap64 _ ∧ wrap64 _ ≤ 9223372036854775807
  unfold wrap64
  generalize (beN (takeG 8 s.1 s.2).1 : Int) = x
  omega
theorem countS_bd (most : Int) (hm : 0 ≤ most) (s : St) : 0 ≤ (countS most s).1 ∧ (countS most s).1 ≤ most := by
  unfold countS countG
  generalize intG s.1 s.2 = r
  simp only
  split
  · split
    · exact ⟨Int.le_refl _, hm⟩
    · rename_i h
      omega
  · exact ⟨Int.le_refl _, hm⟩
theorem blobS_bd (most : Nat) (s : St) : (blobS most s).1.length ≤ most := by
  unfold blobS blobG
  have h := countS_bd most (by omega) s
  unfold countS at h
  split
  · refine Nat.le_trans (takeG_len _ _ _) ?_
    omega
  · exact Nat.zero_le _
theorem textS_bd (most : Nat) (s : St) : (textS most s).1.size ≤ most := by
  have h := blobS_bd most s
  show (blobG most s.1 s.2).1.toArray.size ≤ most
  simpa [blobS] using h
def RdrS (w : World) (lo g : Nat) (s : St) : Prop := RdrAt w lo g s.1 s.2
section
variable {w w' : World} {lo g : Nat} {s : St}
theorem RdrS.below (h : RdrS w lo g s) {B : Nat} (hB : Below B w w') (hg : g < B) : RdrS w' lo g s := by
  obtain ⟨A, c, hK, h1, h2, h3⟩ := h
  refine ⟨A, c, (hB.block g hg).trans hK, h1, h2, ?_⟩
  rw [only_keep fun b _ h2 => hB.block b (by omega)]
  exact h3
theorem RdrS.lt (h : RdrS w lo g s) : g < w.heap.size := by
  obtain ⟨A, c, hK, _⟩ := h
  exact hK.lt
end
theorem int_S {w : World} {lo g : Nat} {s : St} (hR : RdrS w lo g s) : Calls Tryd.prog 67 #[.pointer (some ⟨g, 0, none⟩)] w fun e w' => ∃ x s', intS s = (x, s') ∧ (-9223372036854775808 ≤ x ∧ x ≤ 9223372036854775807) ∧ e = .returned (.int .i64 x) ∧ RdrS w' lo g s' ∧ Exc g (g + 1) w w' := by
  refine (int_any w lo g s.1 s.2 hR).mono ?_
  rintro e w' ⟨rfl, h1, h2⟩
  exact ⟨_, _, rfl, intS_bd s, rfl, h1, h2⟩
theorem text_S {w : World} {lo g : Nat} {s : St} (hR : RdrS w lo g s) (most : Nat) (hm : most ≤ 1099511627776) : Calls Tryd.prog 66 #[.pointer (some ⟨g, 0, none⟩), .int .i64 most] w fun e w' => ∃ x s', textS most s = (x, s') ∧ x.size ≤ most ∧ e = .returned (.string x) ∧ RdrS w' lo g s' ∧ Exc g (g + 1) w w' := by
  refine (text_any w lo g s.1 s.2 hR most (by omega)).mono ?_
  rintro e w' ⟨rfl, h1, h2⟩
  exact ⟨_, _, rfl, textS_bd most s, rfl, h1, h2⟩
theorem countS_nat (most : Nat) (s : St) : ∃ n : Nat, (countS most s).1 = n ∧ n ≤ most := by
  have h := countS_bd most (by omega) s
  exact ⟨(countS most s).1.toNat, by omega, by omega⟩
theorem count_S {w : World} {lo g : Nat} {s : St} (hR : RdrS w lo g s) (most : Nat) : Calls Tryd.prog 68 #[.pointer (some ⟨g, 0, none⟩), .int .i64 most] w fun e w' => ∃ (n : Nat) (s' : St), countS most s = ((n : Int), s') ∧ n ≤ most ∧ e = .returned (.int .i64 n) ∧ RdrS w' lo g s' ∧ Exc g (g + 1) w w' := by
  refine (count_any w lo g s.1 s.2 hR most).mono ?_
  rintro e w' ⟨rfl, h1, h2⟩
  obtain ⟨n, hn, hm⟩ := countS_nat most s
  exact ⟨n, (countS most s).2, by rw [← hn], hm, by rw [← hn]; rfl, h1, h2⟩
theorem blob_S {w : World} {lo g : Nat} {s : St} (hR : RdrS w lo g s) (most : Nat) (hm : most ≤ 1099511627776) : Calls Tryd.prog 90 #[.pointer (some ⟨g, 0, none⟩), .int .i64 most] w fun e w' => ∃ (A : Option Addr) (n c : Nat) (p : List UInt8) (s' : St), blobS most s = (p, s') ∧ p.length = n ∧ n ≤ most ∧ e = .returned (.slice A n c) ∧ n ≤ c ∧ Rd.u8.Sl (only w' lo g) A n p ∧ RdrS w' lo g s' ∧ Exc g (g + 1) w w' := by
  refine (blob_any w lo g s.1 s.2 hR most (by omega)).mono ?_
  rintro e w' ⟨A, c, rfl, h1, h2, h3, h4⟩
  exact ⟨A, _, c, _, _, rfl, rfl, blobS_bd most s, rfl, h1, h2, h3, h4⟩
theorem end_S {w : World} {lo g : Nat} {s : St} (hR : RdrS w lo g s) : Calls Tryd.prog 37 #[.pointer (some ⟨g, 0, none⟩)] w fun e w' => e = .returned (.int .i64 (endS s)) ∧ w = w' := end_any w lo g s.1 s.2 hR
end Go.Proofs.YtjcpgjnogcmalaaDoor

/-! What was laid is read again; what is read was laid; what is cut short is too short: for each step, and for steps one behind the other. -/
namespace Go.Proofs.YtjcpgjnogcmalaaDoor
set_option linter.unusedVariables false
set_option linter.unusedSimpArgs false
open Go.RowKit
/-- f reads what e lays. -/
structure Codec {α : Type} (f : St → α × St) (e : α → List UInt8) (ok : α → Prop) : Prop where
  full : ∀ x rest, ok x → f (e x ++ rest, 0) = (x, (rest, 0))
  cut : ∀ x k, ok x → k < (e x).length → (f ((e x).take k, 0)).2 = ([], 4)
  stuck : (f ([], 4)).2 = ([], 4)
  inv : ∀ s x rest, f s = (x, (rest, 0)) → s = (e x ++ rest, 0) ∧ ok x
/-- One behind the other. -/
def pairS {α β : Type} (f : St → α × St) (g : St → β × St) (s : St) : (α × β) × St := (((f s).1, (g (f s).2).1), (g (f s).2).2)
theorem Codec.pair {α β : Type} {f : St → α × St} {g : St → β × St} {e : α → List UInt8} {d : β → List UInt8} {ok : α → Prop} {ok' : β → Prop} (hf : Codec f e ok) (hg : Codec g d ok') :
    Codec (pairS f g) (fun x => e x.1 ++ d x.2) (fun x => ok x.1 ∧ ok' x.2) where
  full := by
    rintro ⟨x, y⟩ rest ⟨hx, hy⟩
    show pairS f g (e x ++ d y ++ rest, 0) = _
    unfold pairS
    rw [List.append_assoc, hf.full x _ hx]
    simp only
    rw [hg.full y _ hy]
  cut := by
    rintro ⟨x, y⟩ k ⟨hx, hy⟩ hk
    show (g (f ((e x ++ d y).take k, 0)).2).2 = _
    have hk : k < (e x ++ d y).length := hk
    rw [List.length_append] at hk
    by_cases h : k < (e x).length
    · rw [List.take_append_of_le_length (by omega), hf.cut x k hx h]
      exact hg.stuck
    · rw [List.take_append, List.take_of_length_le (by omega), hf.full x _ hx]
      exact hg.cut y _ hy (by omega)
  stuck := by
    show (g (f ([], 4)).2).2 = _
    rw [hf.stuck]
    exact hg.stuck
  inv := by
    rintro s ⟨x, y⟩ rest h
    unfold pairS at h
    simp only [Prod.mk.injEq] at h
    obtain ⟨⟨rfl, h2⟩, h3⟩ := h
    obtain ⟨hs2, hok2⟩ := hg.inv (f s).2 y rest (by rw [← h2, ← h3])
    obtain ⟨hs1, hok1⟩ := hf.inv s (f s).1 _ (by rw [← hs2])
    refine ⟨?_, hok1, hok2⟩
    show s = (e (f s).1 ++ d y ++ rest, 0)
    rw [List.append_assoc]
    exact hs1
/-- The same under another name. -/
theorem Codec.iso {α β : Type} {f : St → α × St} {e : α → List UInt8} {ok : α → Prop} (hf : Codec f e ok) (i : α → β) (j : β → α) (hij : ∀ x, j (i x) = x) (hji : ∀ y, i (j y) = y) :
    Codec (fun s => (i (f s).1, (f s).2)) (fun y => e (j y)) (fun y => ok (j y)) where
  full := fun y rest hy => by simp only [hf.full (j y) rest hy, hji]
  cut := fun y k hy hk => hf.cut (j y) k hy hk
  stuck := hf.stuck
  inv := fun s y rest h => by
    simp only [Prod.mk.injEq] at h
    have := hf.inv s (f s).1 rest (by rw [← h.2])
    rw [← h.1, hij]
    exact this
def manyS {α : Type} (one : St → α × St) : Nat → St → List α × St
  | 0, s => ([], s)
  | k + 1, s => ((manyS one k s).1 ++ [(one (manyS one k s).2).1], (one (manyS one k s).2).2)
/-- How many, and each of them. -/
def listS {α : Type} (most : Int) (one : St → α × St) (s : St) : List α × St := manyS one (countS most s).1.toNat (countS most s).2
/-! numbers -/
theorem bv (v : Int) : ((byteAt v 0).toNat : Int) = v % 256 ∧ ((byteAt v 1).toNat : Int) = v / 256 % 256 ∧ ((byteAt v 2).toNat : Int) = v / 65536 % 256 ∧ ((byteAt v 3).toNat : Int) = v / 16777216 % 256 ∧ ((byteAt v 4).toNat : Int) = v / 4294967296 % 256 ∧ ((byteAt v 5).toNat : Int) = v / 1099511627776 % 256 ∧ ((byteAt v 6).toNat : Int) = v / 281474976710656 % 256 ∧ ((byteAt v 7).toNat : Int) = v / 72057594037927936 % 256 :=
  ⟨by have h := byteAt_val v 0; rw [show ((2 : Int) ^ (8 * 0)) = 1 from rfl, Int.ediv_one] at h; exact h, byteAt_val v 1, byteAt_val v 2, byteAt_val v 3, byteAt_val v 4, byteAt_val v 5, byteAt_val v 6, byteAt_val v 7⟩
theorem num_bytes (v : Int) : ((beN (num8 v) : Nat) : Int) = v % 18446744073709551616 := by
  obtain ⟨h0, h1, h2, h3, h4, h5, h6, h7⟩ := bv v
  unfold num8 beN
  rw [List.foldl_cons, List.foldl_cons, List.foldl_cons, List.foldl_cons, List.foldl_cons, List.foldl_cons, List.foldl_cons, List.foldl_cons, List.foldl_nil]
  generalize (byteAt v 0).toNat = b0 at *; generalize (byteAt v 1).toNat = b1 at *; generalize (byteAt v 2).toNat = b2 at *; generalize (byteAt v 3).toNat = b3 at *
  generalize (byteAt v 4).toNat = b4 at *; generalize (byteAt v 5).toNat = b5 at *; generalize (byteAt v 6).toNat = b6 at *; generalize (byteAt v 7).toNat = b7 at *
  omega
theorem wrap_num (v : Int) (hv : -9223372036854775808 ≤ v ∧ v ≤ 9223372036854775807) : wrap64 (beN (num8 v)) = v := by
  rw [num_bytes]
  unfold wrap64
  omega
theorem beN_inj : ∀ (n : Nat) (p q : List UInt8), p.length = n → q.length = n → beN p = beN q → p = q
  | 0, p, q, hp, hq, _ => by rw [List.eq_nil_of_length_eq_zero hp, List.eq_nil_of_length_eq_zero hq]
  | n + 1, p, q, hp, hq, h => by
    have hp0 : p ≠ [] := by rintro rfl; simp at hp
    have hq0 : q ≠ [] := by rintro rfl; simp at hq
    rw [← List.dropLast_concat_getLast hp0, ← List.dropLast_concat_getLast hq0] at h ⊢
    rw [beN_snoc, beN_snoc] at h
    have l1 := (p.getLast hp0).toNat_lt
    have l2 := (q.getLast hq0).toNat_lt
    have e1 : (p.getLast hp0) = (q.getLast hq0) := UInt8.toNat_inj.1 (by omega)
    have e2 := beN_inj n p.dropLast q.dropLast (by simp; omega) (by simp; omega) (by omega)
    rw [e1, e2]
theorem num_wrap (p : List UInt8) (hp : p.length = 8) : num8 (wrap64 (beN p)) = p := by
  refine beN_inj 8 _ _ rfl hp ?_
  obtain ⟨v, hv⟩ : ∃ v, wrap64 (beN p) = v := ⟨_, rfl⟩
  rw [hv]
  have h1 := num_bytes v
  have h2 := beN_lt p
  rw [hp] at h2
  have h3 : (256 : Nat) ^ 8 = 18446744073709551616 := by decide
  rw [h3] at h2
  unfold wrap64 at hv
  omega
/-! steps -/
def intOk (v : Int) : Prop := -9223372036854775808 ≤ v ∧ v ≤ 9223372036854775807
theorem take_full (n : Nat) (p rest : List UInt8) (h : p.length = n) : takeG n (p ++ rest) 0 = (p, rest, 0) := by
  unfold takeG
  rw [if_neg (by rw [List.length_append]; omega), ← h, List.take_left, List.drop_left]
theorem take_cut (n : Nat) (p : List UInt8) (h : p.length < n) : takeG n p 0 = ([], [], 4) := by
  unfold takeG
  rw [if_pos h, if_pos rfl]
theorem take_stuck (n : Nat) : takeG n [] 4 = ([], [], 4) := by
  unfold takeG
  split
  · rfl
  · simp
theorem take_inv (n : Nat) (bs : List UInt8) (why : Int) (p rest : List UInt8) (h : takeG n bs why = (p, rest, 0)) : bs = p ++ rest ∧ p.length = n ∧ why = 0 := by
  unfold takeG at h
  split at h
  · split at h
    · simp at h
    · rename_i h0 h1
      simp only [Prod.mk.injEq] at h
      exact absurd h.2.2 h1
  · simp only [Prod.mk.injEq] at h
    obtain ⟨rfl, rfl, rfl⟩ := h
    exact ⟨(List.take_append_drop n bs).symm, by rw [List.length_take]; omega, rfl⟩
theorem int_codec : Codec intS num8 intOk where
  full := fun x rest hx => by
    unfold intS intG
    rw [take_full 8 _ _ (num8_len x)]
    simp only [wrap_num x hx]
  cut := fun x k _ hk => by
    rw [num8_len] at hk
    unfold intS intG
    rw [take_cut 8 _ (by rw [List.length_take]; omega)]
  stuck := by
    unfold intS intG
    rw [take_stuck]
  inv := fun s x rest h => by
    obtain ⟨bs, why⟩ := s
    unfold intS intG at h
    simp only [Prod.mk.injEq] at h
    obtain ⟨h1, h2⟩ := h
    obtain ⟨p, hp⟩ : ∃ p, (takeG 8 bs why).1 = p := ⟨_, rfl⟩
    rw [hp] at h1
    obtain ⟨e1, e2, rfl⟩ := take_inv 8 bs why p rest (by rw [← hp, ← h2])
    refine ⟨?_, ?_⟩
    · rw [← h1, num_wrap p e2, e1]
    · rw [← h1]; unfold wrap64 intOk; omega
def cntOk (most : Int) (v : Int) : Prop := 0 ≤ v ∧ v ≤ most
theorem count_codec (most : Nat) (hm : most ≤ 4611686018427387904) : Codec (countS most) num8 (cntOk most) where
  full := fun x rest hx => by
    have h := int_codec.full x rest ⟨by have := hx.1; omega, by have := hx.2; omega⟩
    unfold intS at h
    unfold countS countG
    rw [h]
    have hx1 := hx.1
    have hx2 := hx.2
    simp only [if_true]
    rw [if_neg (by omega)]
  cut := fun x k hx hk => by
    have h := int_codec.cut x k ⟨by have := hx.1; omega, by have := hx.2; omega⟩ hk
    unfold intS at h
    unfold countS countG
    simp only [h]
    rw [if_neg (by decide)]
  stuck := by
    have h := int_codec.stuck
    unfold intS at h
    unfold countS countG
    simp only [h]
    rw [if_neg (by decide)]
  inv := fun s x rest h => by
    have hi := int_codec.inv s
    unfold countS countG at h
    unfold intS at hi
    obtain ⟨r, hr⟩ : ∃ r, intG s.1 s.2 = r := ⟨_, rfl⟩
    rw [hr] at h hi
    simp only at h
    split at h
    · split at h
      · simp at h
      · rename_i h1 h2
        subst h
        exact ⟨(hi x rest rfl).1, by omega, by omega⟩
    · rename_i h1
      simp only [Prod.mk.injEq] at h
      exact absurd (by rw [h.2]) h1
theorem blob_codec (most : Nat) (hm : most ≤ 4611686018427387904) : Codec (blobS most) (fun p => num8 p.length ++ p) (fun p => p.length ≤ most) where
  full := fun x rest hx => by
    have h := (count_codec most hm).full x.length (x ++ rest) ⟨by omega, by omega⟩
    unfold countS at h
    show blobG most (num8 x.length ++ x ++ rest) 0 = _
    unfold blobG
    rw [List.append_assoc, h]
    simp only [if_true, Int.toNat_natCast]
    rw [take_full _ _ _ rfl]
  cut := fun x k hx hk => by
    show (blobG most ((num8 x.length ++ x).take k) 0).2 = _
    have hk : k < (num8 x.length ++ x).length := hk
    rw [List.length_append, num8_len] at hk
    unfold blobG
    by_cases h : k < 8
    · have hc := (count_codec most hm).cut x.length k ⟨by omega, by omega⟩ (by rw [num8_len]; exact h)
      unfold countS at hc
      rw [List.take_append_of_le_length (by rw [num8_len]; omega)]
      simp only [hc]
      rw [if_neg (by decide)]
    · have hc := (count_codec most hm).full x.length (x.take (k - 8)) ⟨by omega, by omega⟩
      unfold countS at hc
      rw [List.take_append, List.take_of_length_le (by rw [num8_len]; omega), num8_len, hc]
      simp only [if_true, Int.toNat_natCast]
      rw [take_cut _ _ (by rw [List.length_take]; omega)]
  stuck := by
    have hc := (count_codec most hm).stuck
    unfold countS at hc
    show (blobG most [] 4).2 = _
    unfold blobG
    simp only [hc]
    rw [if_neg (by decide)]
  inv := fun s x rest h => by
    have hc := (count_codec most hm).inv s
    unfold countS at hc
    unfold blobS blobG at h
    obtain ⟨⟨n, q, y⟩, hr⟩ : ∃ r, countG most s.1 s.2 = r := ⟨_, rfl⟩
    rw [hr] at h hc
    simp only at h
    split at h
    · rename_i hy
      subst hy
      obtain ⟨h1, h2⟩ := hc n q rfl
      obtain ⟨e1, e2, -⟩ := take_inv _ _ _ _ _ h
      have h20 := h2.1
      have h21 := h2.2
      refine ⟨?_, by omega⟩
      rw [h1, e1, show (x.length : Int) = n by omega, List.append_assoc]
    · rename_i hy
      simp only [Prod.mk.injEq] at h
      exact absurd h.2.2 hy
theorem bytes_eq (x : ByteArray) : (⟨x.data.toList.toArray⟩ : ByteArray) = x := by
  cases x; simp
theorem text_codec (most : Nat) (hm : most ≤ 4611686018427387904) : Codec (textS most) txtB (fun s => s.size ≤ most) := by
  have h := (blob_codec most hm).iso (fun p => (⟨p.toArray⟩ : ByteArray)) (fun s => s.data.toList) (fun p => by simp) bytes_eq
  have e : ∀ s : ByteArray, s.data.toList.length = s.size := fun s => by rw [Array.length_toList]; rfl
  refine ⟨fun x rest hx => ?_, fun x k hx hk => ?_, h.stuck, fun s x rest hs => ?_⟩
  · have := h.full x rest (by rw [e]; exact hx)
    rw [e] at this
    exact this
  · have := h.cut x k (by rw [e]; exact hx) (by rw [e]; exact hk)
    rw [e] at this
    exact this
  · obtain ⟨h1, h2⟩ := h.inv s x rest hs
    rw [e] at h1 h2
    exact ⟨h1, h2⟩
theorem many_full {α : Type} {f : St → α × St} {e : α → List UInt8} {ok : α → Prop} (hf : Codec f e ok) (l : List α) (hl : ∀ x ∈ l, ok x) (rest : List UInt8) : ∀ k, k ≤ l.length → manyS f k (l.flatMap e ++ rest, 0) = (l.take k, ((l.drop k).flatMap e ++ rest, 0))
  | 0, _ => by simp [manyS]
  | k + 1, h => by
    unfold manyS
    rw [many_full hf l hl rest k (by omega)]
    simp only
    rw [List.drop_eq_getElem_cons (by omega), List.flatMap_cons, List.append_assoc, hf.full _ _ (hl _ (List.getElem_mem _))]
    rw [List.take_succ_eq_append_getElem (by omega)]
theorem many_stuck {α : Type} {f : St → α × St} {e : α → List UInt8} {ok : α → Prop} (hf : Codec f e ok) : ∀ k, (manyS f k ([], 4)).2 = ([], 4)
  | 0 => rfl
  | k + 1 => by
    show (f (manyS f k ([], 4)).2).2 = _
    rw [many_stuck hf k]
    exact hf.stuck
/-- From the front. -/
theorem many_succ {α : Type} (f : St → α × St) : ∀ (k : Nat) (s : St), manyS f (k + 1) s = ((f s).1 :: (manyS f k (f s).2).1, (manyS f k (f s).2).2)
  | 0, s => rfl
  | k + 1, s => by
    rw [manyS, many_succ f k s]
    rfl
theorem many_cut {α : Type} {f : St → α × St} {e : α → List UInt8} {ok : α → Prop} (hf : Codec f e ok) : ∀ (l : List α) (k : Nat), (∀ x ∈ l, ok x) → k < (l.flatMap e).length → (manyS f l.length ((l.flatMap e).take k, 0)).2 = ([], 4)
  | [], k, _, h => by simp at h
  | x :: l, k, hl, h => by
    rw [List.length_cons, many_succ]
    simp only
    rw [List.flatMap_cons, List.length_append] at h
    rw [List.flatMap_cons]
    by_cases hk : k < (e x).length
    · rw [List.take_append_of_le_length (by omega), hf.cut x k (hl x (by simp)) hk]
      exact many_stuck hf _
    · rw [List.take_append, List.take_of_length_le (by omega), hf.full x _ (hl x (by simp))]
      exact many_cut hf l _ (fun y hy => hl y (by simp [hy])) (by omega)
theorem many_inv {α : Type} {f : St → α × St} {e : α → List UInt8} {ok : α → Prop} (hf : Codec f e ok) : ∀ (k : Nat) (s : St) (l : List α) (rest : List UInt8), manyS f k s = (l, (rest, 0)) → s = (l.flatMap e ++ rest, 0) ∧ l.length = k ∧ ∀ x ∈ l, ok x
  | 0, s, l, rest, h => by
    simp only [manyS, Prod.mk.injEq] at h
    obtain ⟨rfl, rfl⟩ := h
    exact ⟨rfl, rfl, fun x hx => by cases hx⟩
  | k + 1, s, l, rest, h => by
    rw [many_succ] at h
    simp only [Prod.mk.injEq] at h
    obtain ⟨rfl, h2⟩ := h
    obtain ⟨h3, h4, h5⟩ := many_inv hf k (f s).2 _ rest (by rw [← h2])
    obtain ⟨h6, h7⟩ := hf.inv s (f s).1 _ (by rw [← h3])
    refine ⟨?_, by rw [List.length_cons, h4], fun x hx => ?_⟩
    · rw [List.flatMap_cons, List.append_assoc]; exact h6
    · rcases List.mem_cons.1 hx with rfl | hx
      · exact h7
      · exact h5 x hx
theorem list_codec {α : Type} {f : St → α × St} {e : α → List UInt8} {ok : α → Prop} (hf : Codec f e ok) (most : Nat) (hm : most ≤ 4611686018427387904) :
    Codec (listS most f) (fun l => num8 l.length ++ l.flatMap e) (fun l => l.length ≤ most ∧ ∀ x ∈ l, ok x) where
  full := fun l rest hl => by
    have h := (count_codec most hm).full l.length (l.flatMap e ++ rest) ⟨by omega, by have := hl.1; omega⟩
    unfold listS
    rw [List.append_assoc, h]
    simp only [Int.toNat_natCast]
    rw [many_full hf l hl.2 rest _ (Nat.le_refl _)]
    simp
  cut := fun l k hl hk => by
    rw [List.length_append, num8_len] at hk
    unfold listS
    by_cases h : k < 8
    · have hc := (count_codec most hm).cut l.length k ⟨by omega, by have := hl.1; omega⟩ (by rw [num8_len]; exact h)
      rw [List.take_append_of_le_length (by rw [num8_len]; omega), hc]
      exact many_stuck hf _
    · have hc := (count_codec most hm).full l.length ((l.flatMap e).take (k - 8)) ⟨by omega, by have := hl.1; omega⟩
      rw [List.take_append, List.take_of_length_le (by rw [num8_len]; omega), num8_len, hc]
      simp only [Int.toNat_natCast]
      exact many_cut hf l _ hl.2 (by omega)
  stuck := by
    unfold listS
    rw [(count_codec most hm).stuck]
    exact many_stuck hf _
  inv := fun s l rest h => by
    unfold listS at h
    obtain ⟨h1, h2, h3⟩ := many_inv hf _ _ l rest h
    obtain ⟨h4, h5⟩ := (count_codec most hm).inv s (countS most s).1 _ (by rw [← h1])
    have h50 := h5.1
    have h51 := h5.2
    refine ⟨?_, by omega, h3⟩
    rw [List.append_assoc, show (l.length : Int) = (countS most s).1 by omega]
    exact h4
end Go.Proofs.YtjcpgjnogcmalaaDoor
