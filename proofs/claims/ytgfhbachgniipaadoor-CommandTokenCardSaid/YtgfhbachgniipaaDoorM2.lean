/- Bytes: held against one another, copied, lent, kept, written over. (and what follows) -/
import Derived.Test.YtgfhbachgniipaaDoorM1
import Derived.Laws.MakeOwn
import Derived.Lib.AppendStr
/-! Bytes: held against one another, copied, lent, kept, written over. -/
namespace Go.Proofs.YtgfhbachgniipaaDoor
set_option linter.unusedVariables false
set_option linter.unusedSimpArgs false
open Go.RowKit
def encB (b : UInt8) : List Value := [.int .u8 b.toNat]
theorem encB_len (x : UInt8) : (encB x).length = Rd.u8.sz := rfl
theorem encB_K (w : World) (x : UInt8) : Rd.u8.K w x (encB x) := rfl
theorem encB_one (l : List UInt8) : ∀ u ∈ l.flatMap encB, u.oneCell' = true := by
  intro u hu
  obtain ⟨x, _, hx⟩ := List.mem_flatMap.1 hu
  simp [encB] at hx
  subst hx; rfl
theorem elt_bytes : Elt Tryd.prog 37 5 1 1 := Elt.mk' (z := .int .u8 0) Tryd.underlying37 (by kernel_rfl) rfl (by decide)
theorem b_get {w : World} {A : Option Addr} {n : Nat} {l : List UInt8} (h : Rd.u8.Sl w A n l) (k : Nat) (hk : k < n) : ∃ b o, A = some ⟨b, o, none⟩ ∧ w.cell? ⟨b, o + k, none⟩ = some (.int .u8 (l[k]'(by rw [h.1]; exact hk)).toNat) := by
  obtain ⟨b, o, cs, e, hK, hc⟩ := h.get k hk
  have h0 := hc 0 _ (by rw [show cs = [_] from hK]; rfl)
  refine ⟨b, o, e, ?_⟩
  simpa [Rd.u8] using h0
theorem b_cells {w : World} {A : Option Addr} {n : Nat} {l : List UInt8} (h : Rd.u8.Sl w A n l) : Cells w A n 1 (l.flatMap encB) := sl_cellsOf (fun _ _ _ h => h) (fun _ => rfl) h
theorem b_one {l : List UInt8} {k : Nat} (h : k < l.length) : (l.take (k + 1)).flatMap encB = (l.take k).flatMap encB ++ [.int .u8 l[k].toNat] := by
  rw [List.take_succ_eq_append_getElem h, List.flatMap_append]
  rfl
theorem u8_ne {x y : UInt8} (h : x ≠ y) : (((x.toNat : Int)) == ((y.toNat : Int))) = false := by
  rw [beq_eq_false_iff_ne]
  intro e
  exact h (UInt8.toNat_inj.1 (by omega))
theorem take_eq_one {α : Type} {l m : List α} {k : Nat} (hl : k < l.length) (hm : k < m.length) (h : l.take k = m.take k) (e : l[k] = m[k]) : l.take (k + 1) = m.take (k + 1) := by
  rw [List.take_succ_eq_append_getElem hl, List.take_succ_eq_append_getElem hm, h, e]
theorem own_bytes {w : World} {lo hi base : Nat} {e : TypeId} {v : Value} {l : List UInt8} (h : w.ownsRow base e 1 v l.length (l.flatMap encB)) (hb : lo ≤ base) (hh : w.heap.size ≤ hi) : ∃ A c, v = .slice A l.length c ∧ l.length ≤ c ∧ c ≤ maxLen ∧ Rd.u8.Sl (only w lo hi) A l.length l :=
  own_only (d := Rd.u8) encB_len encB_K h hb hh
set_option maxHeartbeats 1000000 in
set_option maxRecDepth 100000 in
theorem sameBytes_any (w : World) (A : Option Addr) (c : Nat) (l : List UInt8) (hS : Rd.u8.Sl w A l.length l) (hc : l.length ≤ c) (hn : l.length ≤ 9223372036854775807) (A' : Option Addr) (c' : Nat) (m : List UInt8) (hS' : Rd.u8.Sl w A' m.length m) (hc' : m.length ≤ c') :
    Calls Tryd.prog 74 #[.slice A l.length c, .slice A' m.length c'] w fun e w' => e = .returned (.bool (l == m)) ∧ Ext w w' := by
  obtain ⟨v, hv⟩ : ∃ v, (l == m) = v := ⟨_, rfl⟩
  rw [hv]
  obtain ⟨n, hln⟩ : ∃ n, l.length = n := ⟨_, rfl⟩
  obtain ⟨n', hmn⟩ : ∃ n, m.length = n := ⟨_, rfl⟩
  rw [hln] at hS hc hn ⊢
  rw [hmn] at hS' hc' ⊢
  go_enter Tryd.func74, Tryd.ntmps74
  by_cases hlen : n = n'
  · subst hlen
    go_wp2_with fail
    go_loopw [5] (fun i wr => ∃ k : Nat, k ≤ n ∧ i = .int .i64 k ∧ l.take k = m.take k ∧ Ext w wr) (fun i _ => n - (intOf i).toNat)
    case atStart => exact ⟨0, by omega, rfl, rfl, Ext.refl _⟩
    case round =>
      obtain ⟨k, hkn, rfl, ht, hwr⟩ := hrel
      by_cases hlt : k < n
      · obtain ⟨b, o, rfl, x0⟩ := b_get hS k hlt
        obtain ⟨b', o', rfl, y0⟩ := b_get hS' k hlt
        have tk := take_eq_one (by omega) (by omega) ht
        generalize hx : l[k]'(by omega) = x at *
        generalize hy : m[k]'(by omega) = y at *
        have r0 := fun (w' : World) (h : Ext wr w') => (hwr.trans h).cellk x0
        have r1 := fun (w' : World) (h : Ext wr w') => (hwr.trans h).cellk y0
        have hY : Ext wr wr := Ext.refl wr
        have hne : x ≠ y → v = false := fun h => by
          rw [← hv, beq_eq_false_iff_ne]
          rintro rfl
          exact h (hx.symm.trans hy)
        clear hS hS' hx hy x0 y0
        go_wp2_with fail
        by_cases hxy : x = y
        · subst hxy
          have tk := tk rfl
          clear hne ht
          refine st_start (fun _ w' => Ext wr w') (fun _ => false) (by kernel_rfl) (by kernel_rfl) (by (repeat (first | assumption | exact Ext.refl _ | refine Ext.drew ?_ | refine Ext.alloc ?_ _ | refine Ext.drewN ?_ _ | refine Ext.trans ?_ (by assumption)))) ?_
          iterate 10 (first | (refine st_off (a' := ?_) rfl (by rfl) rfl ?_ ?_; rotate_left 1; (· simp only [Act.put, List.setIfInBounds_toArray, List.set_cons_zero, List.set_cons_succ]; rfl)) | (refine st_y (v := ?_) (a' := ?_) rfl (by rfl) rfl (fun k w' hw' => ?_) ?_ ?_; rotate_left 2; (· go_simp; with_reducible rfl); (· simp only [Act.put, List.setIfInBounds_toArray, List.set_cons_zero, List.set_cons_succ]; rfl)))
          refine st_end ?_
          intro w1 hY1
          go_wp2_with fail
          go_roundw
          case rel => exact ⟨k + 1, by omega, by go_num, tk, hwr.trans hY1⟩
          case measure => simp [intOf]; omega
        · have hq := u8_ne hxy
          obtain rfl := hne hxy
          clear hne ht tk
          refine st_start (fun _ w' => Ext wr w') (fun _ => false) (by kernel_rfl) (by kernel_rfl) (by (repeat (first | assumption | exact Ext.refl _ | refine Ext.drew ?_ | refine Ext.alloc ?_ _ | refine Ext.drewN ?_ _ | refine Ext.trans ?_ (by assumption)))) ?_
          iterate 10 (first | (refine st_off (a' := ?_) rfl (by rfl) rfl ?_ ?_; rotate_left 1; (· simp only [Act.put, List.setIfInBounds_toArray, List.set_cons_zero, List.set_cons_succ]; rfl)) | (refine st_y (v := ?_) (a' := ?_) rfl (by rfl) rfl (fun k w' hw' => ?_) ?_ ?_; rotate_left 2; (· go_simp; with_reducible rfl); (· simp only [Act.put, List.setIfInBounds_toArray, List.set_cons_zero, List.set_cons_succ]; rfl)))
          refine st_end ?_
          intro w1 hY1
          go_wp2_with fail
          go_ret
          exact ⟨rfl, hwr.trans hY1⟩
      · obtain rfl : k = n := by omega
        have e : l = m := by rw [← List.take_length (l := l), ← List.take_length (l := m), hln, hmn]; exact ht
        go_wp2_with fail
        go_ret
        exact ⟨ret_bool (by rw [← hv, e]; simp), hwr⟩
  · have e : v = false := by
      rw [← hv, beq_eq_false_iff_ne]
      rintro rfl
      exact hlen (by rw [← hln, ← hmn])
    subst e
    go_wp2_with fail
    go_ret
    exact ⟨rfl, Ext.refl _⟩
end Go.Proofs.YtgfhbachgniipaaDoor

/-! Bytes: marks, what is lent and kept; what is written over. -/
namespace Go.Proofs.YtgfhbachgniipaaDoor
set_option linter.unusedVariables false
set_option linter.unusedSimpArgs false
open Go.RowKit
def markB (k : Nat) : UInt8 := UInt8.ofNat (201 + 7 * k)
def marksB (k : Nat) : List UInt8 := (List.range k).map markB
theorem marksB_len (k : Nat) : (marksB k).length = k := by simp [marksB]
theorem marksB_one (l : List UInt8) (k : Nat) : (l ++ marksB (k + 1)).flatMap encB = (l ++ marksB k).flatMap encB ++ [.int .u8 (markB k).toNat] := by
  unfold marksB
  rw [List.range_succ, List.map_append, ← List.append_assoc, List.flatMap_append (xs := l ++ _)]
  rfl
theorem markB_val (k : Nat) : IntKind.u8.wrap (201 + 7 * (k : Int)) = ((markB k).toNat : Int) := by
  unfold markB
  rw [UInt8.toNat_ofNat']
  simp [IntKind.wrap, IntKind.signed, IntKind.bits]
end Go.Proofs.YtgfhbachgniipaaDoor

/-! What lays numbers, bytes and texts: the program's pack. -/
namespace Go.Proofs.YtgfhbachgniipaaDoor
set_option linter.unusedVariables false
set_option linter.unusedSimpArgs false
open Go.RowKit
/-- Byte number k of a number, from the right. -/
def byteAt (v : Int) (k : Nat) : UInt8 := UInt8.ofNat (v / 2 ^ (8 * k) % 256).toNat
theorem byteAt_val (v : Int) (k : Nat) : ((byteAt v k).toNat : Int) = v / 2 ^ (8 * k) % 256 := by
  unfold byteAt
  generalize v / 2 ^ (8 * k) = x
  have h1 : 0 ≤ x % 256 := Int.emod_nonneg _ (by decide)
  have h2 : x % 256 < 256 := Int.emod_lt_of_pos _ (by decide)
  rw [UInt8.toNat_ofNat', Nat.mod_eq_of_lt (by omega), Int.toNat_of_nonneg h1]
def numA (v : Int) : Nat → Array Value
  | 0 => #[.int .u8 0, .int .u8 0, .int .u8 0, .int .u8 0, .int .u8 0, .int .u8 0, .int .u8 0, .int .u8 0]
  | k + 1 => (numA v k).setIfInBounds (7 - k) (.int .u8 (byteAt v k).toNat)
theorem numA_size (v : Int) : ∀ k, (numA v k).size = 8
  | 0 => rfl
  | k + 1 => by rw [numA, Array.size_setIfInBounds]; exact numA_size v k
def num8 (v : Int) : List UInt8 := [byteAt v 7, byteAt v 6, byteAt v 5, byteAt v 4, byteAt v 3, byteAt v 2, byteAt v 1, byteAt v 0]
theorem numA_8 (v : Int) : (numA v 8).toList = (num8 v).flatMap encB := by
  unfold num8
  simp only [numA, List.flatMap_cons, List.flatMap_nil, encB]
  generalize byteAt v 0 = a; generalize byteAt v 1 = b; generalize byteAt v 2 = c; generalize byteAt v 3 = d
  generalize byteAt v 4 = e; generalize byteAt v 5 = f; generalize byteAt v 6 = g; generalize byteAt v 7 = h
  rfl
set_option maxHeartbeats 1000000 in
set_option maxRecDepth 100000 in
theorem number_any (v : Int) (hv : -9223372036854775808 ≤ v ∧ v ≤ 9223372036854775807) (w : World) : Calls Tryd.prog 77 #[.int .i64 v] w fun e w' => ∃ u, e = .returned u ∧ w'.ownsRow w.heap.size 5 1 u 8 ((num8 v).flatMap encB) ∧ Ext w w' := by
  have hmk : ∀ w : World, (Instr.makeSlice 37 (.int .i64 8) (.int .i64 8)).run Tryd.prog w = .ok (.slice (some ⟨w.heap.size, 0, none⟩) 8 8) (w.alloc (.cells #[.int .u8 0, .int .u8 0, .int .u8 0, .int .u8 0, .int .u8 0, .int .u8 0, .int .u8 0, .int .u8 0] 5)) := fun _ => by kernel_rfl
  obtain ⟨W, hW, hE, -⟩ := box1 w #[.int .u8 0, .int .u8 0, .int .u8 0, .int .u8 0, .int .u8 0, .int .u8 0, .int .u8 0, .int .u8 0] 5
  have B1 : Blk W w.heap.size 5 (numA v 0) := by rw [hW]; exact Blk.new _ _ _
  go_enter Tryd.func77, Tryd.ntmps77
  go_wp2_with fail
  rw [← hW]
  clear hW hmk
  go_loopw [8] (fun i wr => ∃ k : Nat, k ≤ 8 ∧ i = .int .i64 k ∧ Blk wr w.heap.size 5 (numA v k) ∧ Ext w wr) (fun i _ => 8 - (intOf i).toNat)
  case atStart => exact ⟨0, by omega, rfl, B1, hE⟩
  case round =>
    clear hE B1
    obtain ⟨k, hkn, rfl, hB, hwr⟩ := hrel
    by_cases hlt : k < 8
    · have hz : 7 - k < (numA v k).size := by rw [numA_size]; omega
      have x0 := hB.cell (7 - k) (Array.getElem?_eq_getElem hz)
      have f0 := hB.frozen (7 - k)
      go_wp2_with fail
      go_roundw
      case rel => exact ⟨k + 1, by omega, by go_num, (by have h := hB.set_ (7 - k) (.int .u8 (v / 2 ^ (8 * k) % 256)); rw [numA, byteAt_val]; exact h), hwr.set (Nat.le_refl _) _⟩
      case measure => simp [intOf]; omega
    · obtain rfl : k = 8 := by omega
      go_wp2_with fail
      go_ret
      refine ⟨_, rfl, ⟨by simp [num8, encB], .inr ⟨_, 8, numA v 8, rfl, Nat.le_refl _, hB, Nat.le_refl _, by decide, numA_size v 8, ?_⟩⟩, hwr⟩
      rw [numA_8]; rfl
theorem wpList_make_own {P : Program} {t e : TypeId} {sz bytes : Nat} {w : World} {ops : Array Oper} {rest : List Oper} {o : Oper} {a : Act} {Q : Exit → Act → World → Prop} (hgd : o.guard = none) (E : Elt P t e sz bytes) (x y : Operand) (ho : o.op = .makeSlice t x y) (c : Nat) (hx : a.eval x = .int .i64 0) (hy : a.eval y = .int .i64 (c : Int)) (hb : bytes * c ≤ 281474976710656) (h63 : c ≤ maxLen)
    (h : ∀ w', w'.ownsRow w.heap.size e sz (.slice (some ⟨w.heap.size, 0, none⟩) 0 c) 0 [] → w.grownBy w' none → wpList P ops Q rest (a.put o.dst (.slice (some ⟨w.heap.size, 0, none⟩) 0 c)) w') : wpList P ops Q (o :: rest) a w :=
  wpList_plain hgd fun K hK => by
    obtain ⟨i, z, hi, hz, hsz, hby, hzc⟩ := E.hi
    obtain ⟨w', hr, hown, hg⟩ := run_make_own (P := P) w w.heap.size t e i z sz E.ht hi hz hsz .i64 .i64 c (by rw [hby]; exact hb) h63 (Nat.le_refl _)
    unfold Oper.wp execOp
    simp only [ho, hx, hy, Sem.run_bind, Sem.run_pure, Result.andThen_ok, hr]
    exact hK _ _ (h w' hown hg)
theorem grown_none {w w' : World} (h : w.grownBy w' none) : Ext w w' := ⟨h.os, h.tape, h.output, h.size, fun k hk => h.block k hk (by simp)⟩
theorem strCells_enc (s : ByteArray) : Lib.strCells s = s.data.toList.flatMap encB := by
  unfold Lib.strCells
  induction s.data.toList with
  | nil => rfl
  | cons x l ih => rw [List.map_cons, List.flatMap_cons, ih]; rfl
set_option maxHeartbeats 1000000 in
set_option maxRecDepth 100000 in
theorem laidB_any (w : World) (A : Option Addr) (c : Nat) (l : List UInt8) (hS : Rd.u8.Sl w A l.length l) (hc : l.length ≤ c) (hn : l.length ≤ 4294967296) (A' : Option Addr) (c' : Nat) (k : List UInt8) (hS' : Rd.u8.Sl w A' k.length k) (hc' : k.length ≤ c') (hn' : k.length ≤ 4294967296) :
    Calls Tryd.prog 64 #[.slice A l.length c, .slice A' k.length c'] w fun e w' => ∃ v, e = .returned v ∧ w'.ownsRow w.heap.size 5 1 v (l.length + k.length) ((l ++ k).flatMap encB) ∧ Ext w w' := by
  have hck := b_cells hS'
  have h1k := encB_one k
  rw [List.flatMap_append]
  obtain ⟨m, hkm⟩ : ∃ n, k.length = n := ⟨_, rfl⟩
  rw [hkm] at hck hc' hn' ⊢
  generalize k.flatMap encB = M at *
  clear hS' hkm
  obtain ⟨n, hln⟩ : ∃ n, l.length = n := ⟨_, rfl⟩
  have hcl := b_cells hS
  have h1 := encB_one l
  rw [hln] at hcl hc hn ⊢
  generalize l.flatMap encB = L at *
  clear hS hln
  go_enter Tryd.func64, Tryd.ntmps64
  go_wp2_with (first | (refine wpList_make_own rfl elt_bytes (.const (.int .i64 0)) (.tmp 11) rfl (n + m + 16) rfl (by go_num) (by omega) (by unfold maxLen; omega) ?_; intro w1 hown1 hg1; have hE1 := grown_none hg1; have hcl1 : Cells w1 A n 1 L := ⟨hcl.1, hcl.2.1, fun ad h j u hu => hE1.cellk (hcl.2.2 ad h j u hu)⟩) | (at_builtin; refine wpList_append_cells rfl elt_bytes (.tmp 13) (.tmp 14) rfl hown1 rfl rfl hcl1 h1 (by unfold maxLen; omega) (by omega) hE1.le ?_; intro v2 w2 hown2 hg2; have hE2 := grown_ext2 hE1 hown1 hg2 (Nat.le_refl _); have hck2 : Cells w2 A' m 1 M := ⟨hck.1, hck.2.1, fun ad h j u hu => hE2.cellk (hck.2.2 ad h j u hu)⟩; simp only [Nat.zero_add, List.nil_append] at hown2) | (at_builtin; refine wpList_append_cells rfl elt_bytes (.tmp 15) (.tmp 16) rfl hown2 rfl rfl hck2 h1k (by unfold maxLen; omega) (by omega) hE2.le ?_; intro v3 w3 hown3 hg3; have hE3 := grown_ext2 hE2 hown2 hg3 (Nat.le_refl _)))
  go_ret
  exact ⟨_, rfl, hown3, hE3⟩
set_option maxHeartbeats 1000000 in
set_option maxRecDepth 100000 in
theorem laidS_any (w : World) (A : Option Addr) (c : Nat) (l : List UInt8) (hS : Rd.u8.Sl w A l.length l) (hc : l.length ≤ c) (hn : l.length ≤ 4294967296) (s : ByteArray) (hs : s.size ≤ 4294967296) :
    Calls Tryd.prog 75 #[.slice A l.length c, .string s] w fun e w' => ∃ v, e = .returned v ∧ w'.ownsRow w.heap.size 5 1 v (l.length + s.size) ((l ++ s.data.toList).flatMap encB) ∧ Ext w w' := by
  obtain ⟨i0, hi, hz0, hz1, hz2⟩ := info_parts (show (Tryd.prog.info? 5).map (fun i => (i.zero, i.size, i.bytes)) = some (some (.int .u8 0), 1, 1) by kernel_rfl)
  rw [List.flatMap_append, ← strCells_enc]
  obtain ⟨n, hln⟩ : ∃ n, l.length = n := ⟨_, rfl⟩
  have hcl := b_cells hS
  have h1 := encB_one l
  rw [hln] at hcl hc hn ⊢
  generalize l.flatMap encB = L at *
  clear hS hln
  go_enter Tryd.func75, Tryd.ntmps75
  go_wp2_with (first | (refine wpList_make_own rfl elt_bytes (.const (.int .i64 0)) (.tmp 11) rfl (n + s.size + 16) rfl (by go_num) (by omega) (by unfold maxLen; omega) ?_; intro w1 hown1 hg1; have hE1 := grown_none hg1; have hcl1 : Cells w1 A n 1 L := ⟨hcl.1, hcl.2.1, fun ad h j u hu => hE1.cellk (hcl.2.2 ad h j u hu)⟩) | (at_builtin; refine wpList_append_cells rfl elt_bytes (.tmp 13) (.tmp 14) rfl hown1 rfl rfl hcl1 h1 (by unfold maxLen; omega) (by omega) hE1.le ?_; intro v2 w2 hown2 hg2; have hE2 := grown_ext2 hE1 hown1 hg2 (Nat.le_refl _); simp only [Nat.zero_add, List.nil_append] at hown2) | (at_builtin; refine Lib.wpList_append_own_string _ rfl (.tmp 15) (.tmp 16) 37 9 rfl w.heap.size 5 i0 Tryd.underlying37 Tryd.underlying9 hi hz0 hz1 hz2 _ _ _ rfl hown2 s rfl (by unfold maxLen; omega) (by omega) hE2.le ?_; intro v3 w3 hown3 hg3 _; have hE3 := grown_ext2 hE2 hown2 hg3 (Nat.le_refl _)))
  go_ret
  exact ⟨_, rfl, hown3, hE3⟩
theorem num8_len (v : Int) : (num8 v).length = 8 := rfl
set_option maxHeartbeats 1000000 in
set_option maxRecDepth 100000 in
theorem packInt_any (w : World) (A : Option Addr) (c : Nat) (l : List UInt8) (hS : Rd.u8.Sl w A l.length l) (hc : l.length ≤ c) (hn : l.length ≤ 4294967296) (v : Int) (hv : -9223372036854775808 ≤ v ∧ v ≤ 9223372036854775807) :
    Calls Tryd.prog 63 #[.slice A l.length c, .int .i64 v] w fun e w' => ∃ u, e = .returned u ∧ w'.ownsRow w.heap.size 5 1 u (l.length + 8) ((l ++ num8 v).flatMap encB) ∧ Ext w w' := by
  have hla := fun (w' : World) (h : Ext w w') => laidB_any w' A c l (hS.ext h) hc hn
  obtain ⟨n, hln⟩ : ∃ n, l.length = n := ⟨_, rfl⟩
  rw [hln] at hla ⊢
  clear hS
  go_enter Tryd.func63, Tryd.ntmps63
  go_wp2_with (first | (go_at_call 77; (with_reducible refine (number_any v hv _).mono ?_); rintro e w1 ⟨u1, rfl, hown1, hE1⟩; obtain ⟨A1, c1, hu1, h1c, -, h1S⟩ := own_bytes (lo := 0) (hi := w1.heap.size) (l := num8 v) (by rw [num8_len]; exact hown1) (Nat.zero_le _) (Nat.le_refl _); rw [num8_len] at hu1; subst hu1; have h2 := hla w1 hE1 A1 c1 (num8 v) (h1S.mono only_cle) h1c (by rw [num8_len]; decide); rw [num8_len] at h2; clear hla hown1 h1S) | (go_at_call 64; (with_reducible refine h2.mono ?_); rintro e w2 ⟨u2, rfl, hown2, hE2⟩))
  go_ret
  exact ⟨_, rfl, own_base hown2 hE1.le, hE1.trans hE2⟩
set_option maxHeartbeats 1000000 in
set_option maxRecDepth 100000 in
theorem packBlob_any (w : World) (A : Option Addr) (c : Nat) (l : List UInt8) (hS : Rd.u8.Sl w A l.length l) (hc : l.length ≤ c) (hn : l.length ≤ 1073741824) (A' : Option Addr) (c' : Nat) (k : List UInt8) (hS' : Rd.u8.Sl w A' k.length k) (hc' : k.length ≤ c') (hn' : k.length ≤ 4294967296) :
    Calls Tryd.prog 36 #[.slice A l.length c, .slice A' k.length c'] w fun e w' => ∃ u, e = .returned u ∧ w'.ownsRow w.heap.size 5 1 u (l.length + 8 + k.length) ((l ++ num8 k.length ++ k).flatMap encB) ∧ Ext w w' := by
  have h1 := packInt_any w A c l hS hc (by omega) k.length (by omega)
  have hla := fun (w' : World) (h : Ext w w') A1 c1 hS1 hc1 => laidB_any w' A1 c1 (l ++ num8 k.length) hS1 hc1 (by rw [List.length_append, num8_len]; omega) A' c' k (hS'.ext h) hc' hn'
  have hl : (l ++ num8 k.length).length = l.length + 8 := by rw [List.length_append, num8_len]
  rw [hl] at hla
  obtain ⟨m, hkm⟩ : ∃ n, k.length = n := ⟨_, rfl⟩
  obtain ⟨n, hln⟩ : ∃ n, l.length = n := ⟨_, rfl⟩
  rw [hln] at h1 hla hl ⊢
  rw [hkm] at h1 hla hl ⊢
  have HL := Lib.hid hl
  clear hS hS' hln hkm hl
  go_enter Tryd.func36, Tryd.ntmps36
  go_wp2_with (first | (go_at_call 63; (with_reducible refine h1.mono ?_); rintro e w1 ⟨u1, rfl, hown1, hE1⟩; obtain ⟨A1, c1, hu1, h1c, -, h1S⟩ := own_bytes (lo := 0) (hi := w1.heap.size) (l := l ++ num8 m) (by rw [HL.out]; exact hown1) (Nat.zero_le _) (Nat.le_refl _); rw [HL.out] at hu1 h1c h1S; subst hu1; have h2 := hla w1 hE1 A1 c1 (h1S.mono only_cle) h1c; clear hla hown1 h1S h1) | (go_at_call 64; (with_reducible refine h2.mono ?_); rintro e w2 ⟨u2, rfl, hown2, hE2⟩))
  go_ret
  exact ⟨_, rfl, own_base hown2 hE1.le, hE1.trans hE2⟩
set_option maxHeartbeats 1000000 in
set_option maxRecDepth 100000 in
theorem packText_any (w : World) (A : Option Addr) (c : Nat) (l : List UInt8) (hS : Rd.u8.Sl w A l.length l) (hc : l.length ≤ c) (hn : l.length ≤ 1073741824) (s : ByteArray) (hs : s.size ≤ 4294967296) :
    Calls Tryd.prog 60 #[.slice A l.length c, .string s] w fun e w' => ∃ u, e = .returned u ∧ w'.ownsRow w.heap.size 5 1 u (l.length + 8 + s.size) ((l ++ num8 s.size ++ s.data.toList).flatMap encB) ∧ Ext w w' := by
  have h1 := packInt_any w A c l hS hc (by omega) s.size (by omega)
  have hla := fun (w' : World) A1 c1 hS1 hc1 => laidS_any w' A1 c1 (l ++ num8 s.size) hS1 hc1 (by rw [List.length_append, num8_len]; omega) s hs
  have hl : (l ++ num8 s.size).length = l.length + 8 := by rw [List.length_append, num8_len]
  rw [hl] at hla
  obtain ⟨n, hln⟩ : ∃ n, l.length = n := ⟨_, rfl⟩
  rw [hln] at h1 hla hl ⊢
  have HL := Lib.hid hl
  clear hS hln hl
  go_enter Tryd.func60, Tryd.ntmps60
  go_wp2_with (first | (go_at_call 63; (with_reducible refine h1.mono ?_); rintro e w1 ⟨u1, rfl, hown1, hE1⟩; obtain ⟨A1, c1, hu1, h1c, -, h1S⟩ := own_bytes (lo := 0) (hi := w1.heap.size) (l := l ++ num8 s.size) (by rw [HL.out]; exact hown1) (Nat.zero_le _) (Nat.le_refl _); rw [HL.out] at hu1 h1c h1S; subst hu1; have h2 := hla w1 A1 c1 (h1S.mono only_cle) h1c; clear hla hown1 h1S h1) | (go_at_call 75; (with_reducible refine h2.mono ?_); rintro e w2 ⟨u2, rfl, hown2, hE2⟩))
  go_ret
  exact ⟨_, rfl, own_base hown2 hE1.le, hE1.trans hE2⟩
end Go.Proofs.YtgfhbachgniipaaDoor

/-! What lays numbers, bytes and texts: the document's answer. -/
namespace Go.Proofs.YtgfhbachgniipaaDoor
set_option linter.unusedVariables false
set_option linter.unusedSimpArgs false
open Go.RowKit
def idx : Nat → Int
  | 0 => -1
  | m + 1 => m
def uOf (v : Int) : Nat := (v % 18446744073709551616).toNat
theorem uOf_wrap (v : Int) : IntKind.u64.wrap v = (uOf v : Int) := by
  unfold uOf
  rw [IntKind.wrap_u64, Int.toNat_of_nonneg (Int.emod_nonneg _ (by decide))]
theorem uOf_lt (v : Int) : uOf v < 18446744073709551616 := by
  unfold uOf
  have h1 := Int.emod_nonneg v (show (18446744073709551616 : Int) ≠ 0 by decide)
  have h2 := Int.emod_lt_of_pos v (show (0 : Int) < 18446744073709551616 by decide)
  omega
theorem uOf_byte (v : Int) : ∀ m, m < 8 → (uOf v / 256 ^ m) % 256 = (byteAt v m).toNat := by
  intro m hm
  have h := byteAt_val v m
  have hu : (uOf v : Int) = v % 18446744073709551616 := by
    unfold uOf; rw [Int.toNat_of_nonneg (Int.emod_nonneg _ (by decide))]
  have key : ((uOf v / 256 ^ m % 256 : Nat) : Int) = ((byteAt v m).toNat : Int) := by
    rw [h, Int.natCast_emod, Int.natCast_ediv, hu]
    obtain rfl | rfl | rfl | rfl | rfl | rfl | rfl | rfl : m = 0 ∨ m = 1 ∨ m = 2 ∨ m = 3 ∨ m = 4 ∨ m = 5 ∨ m = 6 ∨ m = 7 := by omega
    all_goals (simp <;> omega)
  exact Int.natCast_inj.1 key
theorem num8_take (v : Int) (m : Nat) (hm : m < 8) : (num8 v).take (8 - m) = (num8 v).take (7 - m) ++ [byteAt v m] := by
  obtain rfl | rfl | rfl | rfl | rfl | rfl | rfl | rfl : m = 0 ∨ m = 1 ∨ m = 2 ∨ m = 3 ∨ m = 4 ∨ m = 5 ∨ m = 6 ∨ m = 7 := by omega
  all_goals rfl
end Go.Proofs.YtgfhbachgniipaaDoor

/-! Bytes of the call's own: numbers, texts, bytes laid behind them, by the program and by the document's answer. -/
namespace Go.Proofs.YtgfhbachgniipaaDoor
set_option linter.unusedVariables false
set_option linter.unusedSimpArgs false
open Go.RowKit
def txtB (s : ByteArray) : List UInt8 := num8 s.size ++ s.data.toList
def numsB (l : List Int) : List UInt8 := l.flatMap num8
def blobsB (l : List (List UInt8)) : List UInt8 := l.flatMap fun x => num8 x.length ++ x
/-- Bytes of the call's own. -/
def OwnB (B : Nat) (w : World) (v : Value) (L : List UInt8) : Prop := w.ownsRow B 5 1 v L.length (L.flatMap encB)
theorem OwnB.sl {B : Nat} {w : World} {v : Value} {L : List UInt8} (h : OwnB B w v L) : ∃ A c, v = .slice A L.length c ∧ L.length ≤ c ∧ Rd.u8.Sl w A L.length L := by
  obtain ⟨A, c, hv, h1, _, h2⟩ := own_bytes (lo := 0) (hi := w.heap.size) h (Nat.zero_le _) (Nat.le_refl _)
  exact ⟨A, c, hv, h1, h2.mono only_cle⟩
theorem txtB_len (s : ByteArray) : (txtB s).length = 8 + s.size := by
  unfold txtB; rw [List.length_append, num8_len, Array.length_toList]; rfl
theorem numsB_one (l : List Int) (k : Nat) (h : k < l.length) : numsB (l.take (k + 1)) = numsB (l.take k) ++ num8 l[k] := by
  unfold numsB
  rw [List.take_succ_eq_append_getElem h, List.flatMap_append]
  simp
theorem numsB_len (l : List Int) : (numsB l).length = 8 * l.length := by
  unfold numsB
  induction l with
  | nil => rfl
  | cons x l ih => rw [List.flatMap_cons, List.length_append, ih, num8_len, List.length_cons]; omega
theorem blobsB_one (l : List (List UInt8)) (k : Nat) (h : k < l.length) : blobsB (l.take (k + 1)) = blobsB (l.take k) ++ (num8 l[k].length ++ l[k]) := by
  unfold blobsB
  rw [List.take_succ_eq_append_getElem h, List.flatMap_append]
  simp
theorem blobsB_len (l : List (List UInt8)) (h : ∀ x ∈ l, x.length ≤ 1048576) : ∀ k, (blobsB (l.take k)).length ≤ k * 1048584
  | 0 => by simp [blobsB]
  | k + 1 => by
    have ih := blobsB_len l h k
    by_cases hk : k < l.length
    · rw [blobsB_one l k hk, List.length_append, List.length_append, num8_len]
      have := h _ (List.getElem_mem hk)
      omega
    · rw [List.take_of_length_le (by omega)]
      rw [List.take_of_length_le (by omega)] at ih
      exact Nat.le_trans ih (Nat.mul_le_mul_right _ (Nat.le_succ k))
/-- Int behind bytes of the call's own. -/
theorem intO {B : Nat} {w : World} {v : Value} {L : List UInt8} (h : OwnB B w v L) (hB : B ≤ w.heap.size) (hL : L.length ≤ 4294967296) (x : Int) (hx : -9223372036854775808 ≤ x ∧ x ≤ 9223372036854775807) :
    Calls Tryd.prog 63 #[v, .int .i64 x] w fun e w' => ∃ u, e = .returned u ∧ OwnB B w' u (L ++ num8 x) ∧ Ext w w' := by
  obtain ⟨A, c, rfl, h1, h2⟩ := h.sl
  refine (packInt_any w A c L h2 h1 hL x hx).mono ?_
  rintro e w' ⟨u, rfl, hu, hE⟩
  refine ⟨u, rfl, ?_, hE⟩
  unfold OwnB
  rw [List.length_append, num8_len]
  exact own_base hu hB
theorem textO {B : Nat} {w : World} {v : Value} {L : List UInt8} (h : OwnB B w v L) (hB : B ≤ w.heap.size) (hL : L.length ≤ 1073741824) (s : ByteArray) (hs : s.size ≤ 4294967296) :
    Calls Tryd.prog 60 #[v, .string s] w fun e w' => ∃ u, e = .returned u ∧ OwnB B w' u (L ++ txtB s) ∧ Ext w w' := by
  obtain ⟨A, c, rfl, h1, h2⟩ := h.sl
  refine (packText_any w A c L h2 h1 hL s hs).mono ?_
  rintro e w' ⟨u, rfl, hu, hE⟩
  refine ⟨u, rfl, ?_, hE⟩
  unfold OwnB txtB
  have e1 : s.data.toList.length = s.size := by rw [Array.length_toList]; rfl
  rw [List.length_append, List.length_append, num8_len, e1, ← Nat.add_assoc, ← List.append_assoc]
  exact own_base hu hB
theorem blobO {B : Nat} {w : World} {v : Value} {L : List UInt8} (h : OwnB B w v L) (hB : B ≤ w.heap.size) (hL : L.length ≤ 1073741824) (A' : Option Addr) (c' : Nat) (p : List UInt8) (hS : Rd.u8.Sl w A' p.length p) (hc : p.length ≤ c') (hp : p.length ≤ 4294967296) :
    Calls Tryd.prog 36 #[v, .slice A' p.length c'] w fun e w' => ∃ u, e = .returned u ∧ OwnB B w' u (L ++ (num8 p.length ++ p)) ∧ Ext w w' := by
  obtain ⟨A, c, rfl, h1, h2⟩ := h.sl
  refine (packBlob_any w A c L h2 h1 hL A' c' p hS hc hp).mono ?_
  rintro e w' ⟨u, rfl, hu, hE⟩
  refine ⟨u, rfl, ?_, hE⟩
  unfold OwnB
  rw [List.length_append, List.length_append, num8_len, ← Nat.add_assoc, ← List.append_assoc]
  exact own_base hu hB
theorem OwnB.nil (B : Nat) (w : World) : OwnB B w (.slice none 0 0) [] := World.ownsRow_nil _ _ _ _
theorem OwnB.ext {B : Nat} {w w' : World} {v : Value} {L : List UInt8} (h : OwnB B w v L) (hE : Ext w w') : OwnB B w' v L := own_ext h hE
theorem arr4 (a b c d : Int) (k : Nat) (h : k < 4) : (#[.int .i64 a, .int .i64 b, .int .i64 c, .int .i64 d] : Array Value)[k]? = some (.int .i64 ([a, b, c, d][k]'h)) := by
  obtain rfl | rfl | rfl | rfl : k = 0 ∨ k = 1 ∨ k = 2 ∨ k = 3 := by omega
  all_goals rfl
/-- Bytes of the call's own, at most N of them. -/
def OwnN (B N : Nat) (w : World) (v : Value) (L : List UInt8) : Prop := OwnB B w v L ∧ L.length ≤ N ∧ B ≤ w.heap.size
theorem OwnN.nil (B : Nat) (w : World) (h : B ≤ w.heap.size) : OwnN B 0 w (.slice none 0 0) [] := ⟨OwnB.nil B w, Nat.le_refl _, h⟩
theorem OwnN.ext {B N : Nat} {w w' : World} {v : Value} {L : List UInt8} (h : OwnN B N w v L) (hE : Ext w w') : OwnN B N w' v L := ⟨h.1.ext hE, h.2.1, Nat.le_trans h.2.2 hE.le⟩
theorem OwnN.re {B N : Nat} {w : World} {v : Value} {L L' : List UInt8} (h : OwnN B N w v L) (e : L = L') : OwnN B N w v L' := e ▸ h
end Go.Proofs.YtgfhbachgniipaaDoor

/-! Rows of bytes: held against one another, copied, written over, counted. -/
namespace Go.Proofs.YtgfhbachgniipaaDoor
set_option linter.unusedVariables false
set_option linter.unusedSimpArgs false
open Go.RowKit
def rdB : Rd (List UInt8) := Rd.slice Rd.u8
def rdN : Rd (List (List UInt8)) := Rd.slice rdB
theorem elt_nested : Elt Tryd.prog 28 37 1 24 := Elt.mk' (z := .slice none 0 0) Tryd.underlying28 (by kernel_rfl) rfl (by decide)
theorem n_get {w : World} {A : Option Addr} {n : Nat} {l : List (List UInt8)} (h : rdB.Sl w A n l) (k : Nat) (hk : k < n) : ∃ b o A' c', A = some ⟨b, o, none⟩ ∧ w.cell? ⟨b, o + k, none⟩ = some (.slice A' (l[k]'(by rw [h.1]; exact hk)).length c') ∧ (l[k]'(by rw [h.1]; exact hk)).length ≤ c' ∧ Rd.u8.Sl w A' (l[k]'(by rw [h.1]; exact hk)).length (l[k]'(by rw [h.1]; exact hk)) := by
  obtain ⟨b, o, cs, e, ⟨A', c', hK, hl, hS⟩, hc⟩ := h.get k hk
  have h0 := hc 0 _ (by rw [hK]; rfl)
  refine ⟨b, o, A', c', e, ?_, hl, hS⟩
  simpa [rdB, Rd.slice] using h0
theorem own_nested {w : World} {lo hi base : Nat} {e : TypeId} {v : Value} {l : List (List UInt8)} {vs : List Value} (h : w.ownsRow base e 1 v l.length vs) (hb : lo ≤ base) (hh : w.heap.size ≤ hi) (he : ∀ i (h : i < l.length), ∃ u, vs[i]? = some u ∧ rdB.K (only w lo hi) l[i] [u]) : ∃ A c, v = .slice A l.length c ∧ l.length ≤ c ∧ rdB.Sl (only w lo hi) A l.length l := by
  obtain ⟨hl, ⟨rfl, hn⟩ | ⟨g, cap, cur, rfl, hbg, hc, hle, hm, hs, ht⟩⟩ := h
  · have hl0 : l = [] := List.eq_nil_of_length_eq_zero hn
    subst hl0
    exact ⟨none, 0, rfl, Nat.le_refl _, Rd.Sl.none _ _ none⟩
  · have hg : g < hi := Nat.lt_of_lt_of_le (Array.getElem?_eq_some_iff.1 hc).1 hh
    refine ⟨some ⟨g, 0, none⟩, cap, rfl, hle, rfl, fun _ => ⟨g, 0, rfl, fun i hi' => ?_⟩⟩
    obtain ⟨u, hu, hK⟩ := he i hi'
    refine ⟨[u], hK, fun j x hx => ?_⟩
    obtain ⟨rfl, rfl⟩ : j = 0 ∧ x = u := by
      cases j with
      | zero => simp at hx; exact ⟨rfl, hx.symm⟩
      | succ j => simp at hx
    rw [← ht, Nat.mul_one, List.getElem?_take_of_lt hi'] at hu
    refine cell_only hc (Nat.le_trans hb hbg) hg ?_
    simpa [rdB, Rd.slice] using hu
set_option maxHeartbeats 1000000 in
set_option maxRecDepth 100000 in
theorem sameNested_any (w : World) (A : Option Addr) (c : Nat) (l : List (List UInt8)) (hS : rdB.Sl w A l.length l) (hc : l.length ≤ c) (hn : l.length ≤ 9223372036854775807) (hx : ∀ x ∈ l, x.length ≤ 9223372036854775807) (A' : Option Addr) (c' : Nat) (m : List (List UInt8)) (hS' : rdB.Sl w A' m.length m) (hc' : m.length ≤ c') :
    Calls Tryd.prog 57 #[.slice A l.length c, .slice A' m.length c'] w fun e w' => e = .returned (.bool (l == m)) ∧ Ext w w' := by
  obtain ⟨v, hv⟩ : ∃ v, (l == m) = v := ⟨_, rfl⟩
  rw [hv]
  obtain ⟨n, hln⟩ : ∃ n, l.length = n := ⟨_, rfl⟩
  obtain ⟨n', hmn⟩ : ∃ n, m.length = n := ⟨_, rfl⟩
  rw [hln] at hS hc hn ⊢
  rw [hmn] at hS' hc' ⊢
  go_enter Tryd.func57, Tryd.ntmps57
  by_cases hlen : n = n'
  · subst hlen
    go_wp2_with fail
    go_loopw [5] (fun i wr => ∃ k : Nat, k ≤ n ∧ i = .int .i64 k ∧ l.take k = m.take k ∧ Ext w wr) (fun i _ => n - (intOf i).toNat)
    case atStart => exact ⟨0, by omega, rfl, rfl, Ext.refl _⟩
    case round =>
      obtain ⟨k, hkn, rfl, ht, hwr⟩ := hrel
      by_cases hlt : k < n
      · obtain ⟨b, o, A1, c1, rfl, x0, h1c, h1S⟩ := n_get hS k hlt
        obtain ⟨b', o', A2, c2, rfl, y0, h2c, h2S⟩ := n_get hS' k hlt
        have tk := take_eq_one (by omega) (by omega) ht
        have hxm := hx _ (List.getElem_mem (l := l) (n := k) (by omega))
        generalize hx : l[k]'(by omega) = x at *
        generalize hy : m[k]'(by omega) = y at *
        have r0 := fun (w' : World) (h : Ext wr w') => (hwr.trans h).cellk x0
        have r1 := fun (w' : World) (h : Ext wr w') => (hwr.trans h).cellk y0
        have hsb := fun (w' : World) (h : Ext wr w') => sameBytes_any w' A1 c1 x (h1S.ext (hwr.trans h)) h1c hxm A2 c2 y (h2S.ext (hwr.trans h)) h2c
        have hY : Ext wr wr := Ext.refl wr
        have hne : x ≠ y → v = false := fun h => by
          rw [← hv, beq_eq_false_iff_ne]
          rintro rfl
          exact h (hx.symm.trans hy)
        obtain ⟨nx, hnx⟩ : ∃ nx, x.length = nx := ⟨_, rfl⟩
        obtain ⟨ny, hny⟩ : ∃ nx, y.length = nx := ⟨_, rfl⟩
        rw [hnx] at r0 hsb
        rw [hny] at r1 hsb
        clear hS hS' hx hy x0 y0 h1S h2S hxm
        go_wp2_with fail
        by_cases hxy : x = y
        · subst hxy
          have tk := tk rfl
          simp only [beq_self_eq_true] at hsb
          clear hne ht
          refine st_start (fun _ w' => Ext wr w') (fun _ => false) (by kernel_rfl) (by kernel_rfl) (by (repeat (first | assumption | exact Ext.refl _ | refine Ext.drew ?_ | refine Ext.alloc ?_ _ | refine Ext.drewN ?_ _ | refine Ext.trans ?_ (by assumption)))) ?_
          iterate 8 (first | (refine st_off (a' := ?_) rfl (by rfl) rfl ?_ ?_; rotate_left 1; (· simp only [Act.put, List.setIfInBounds_toArray, List.set_cons_zero, List.set_cons_succ]; rfl)) | (refine st_y (v := ?_) (a' := ?_) rfl (by rfl) rfl (fun k w' hw' => ?_) ?_ ?_; rotate_left 2; (· go_simp; with_reducible rfl); (· simp only [Act.put, List.setIfInBounds_toArray, List.set_cons_zero, List.set_cons_succ]; rfl)))
          refine st_call (args := ?_) (v := .bool true) (a' := ?_) Tryd.func74 (by kernel_rfl) rfl (by rfl) rfl rfl rfl ?_ ?_ ?_ ?_
          rotate_left 2
          · simp only [List.map_toArray, List.map_cons, List.map_nil]; rfl
          · exact fun k w' hS => (hsb w' hS).mono fun e w'' h => ⟨h.1, Ext.trans hS h.2⟩
          · simp only [Act.put, List.setIfInBounds_toArray, List.set_cons_zero, List.set_cons_succ]; rfl
          iterate 1 (first | (refine st_off (a' := ?_) rfl (by rfl) rfl ?_ ?_; rotate_left 1; (· simp only [Act.put, List.setIfInBounds_toArray, List.set_cons_zero, List.set_cons_succ]; rfl)) | (refine st_y (v := ?_) (a' := ?_) rfl (by rfl) rfl (fun k w' hw' => ?_) ?_ ?_; rotate_left 2; (· go_simp; with_reducible rfl); (· simp only [Act.put, List.setIfInBounds_toArray, List.set_cons_zero, List.set_cons_succ]; rfl)))
          refine st_end ?_
          intro w1 hY1
          go_wp2_with fail
          go_roundw
          case rel => exact ⟨k + 1, by omega, by go_num, tk, hwr.trans hY1⟩
          case measure => simp [intOf]; omega
        · have hq : (x == y) = false := by rw [beq_eq_false_iff_ne]; exact hxy
          rw [hq] at hsb
          obtain rfl := hne hxy
          clear hne ht tk hq
          refine st_start (fun _ w' => Ext wr w') (fun _ => false) (by kernel_rfl) (by kernel_rfl) (by (repeat (first | assumption | exact Ext.refl _ | refine Ext.drew ?_ | refine Ext.alloc ?_ _ | refine Ext.drewN ?_ _ | refine Ext.trans ?_ (by assumption)))) ?_
          iterate 8 (first | (refine st_off (a' := ?_) rfl (by rfl) rfl ?_ ?_; rotate_left 1; (· simp only [Act.put, List.setIfInBounds_toArray, List.set_cons_zero, List.set_cons_succ]; rfl)) | (refine st_y (v := ?_) (a' := ?_) rfl (by rfl) rfl (fun k w' hw' => ?_) ?_ ?_; rotate_left 2; (· go_simp; with_reducible rfl); (· simp only [Act.put, List.setIfInBounds_toArray, List.set_cons_zero, List.set_cons_succ]; rfl)))
          refine st_call (args := ?_) (v := .bool false) (a' := ?_) Tryd.func74 (by kernel_rfl) rfl (by rfl) rfl rfl rfl ?_ ?_ ?_ ?_
          rotate_left 2
          · simp only [List.map_toArray, List.map_cons, List.map_nil]; rfl
          · exact fun k w' hS => (hsb w' hS).mono fun e w'' h => ⟨h.1, Ext.trans hS h.2⟩
          · simp only [Act.put, List.setIfInBounds_toArray, List.set_cons_zero, List.set_cons_succ]; rfl
          iterate 1 (first | (refine st_off (a' := ?_) rfl (by rfl) rfl ?_ ?_; rotate_left 1; (· simp only [Act.put, List.setIfInBounds_toArray, List.set_cons_zero, List.set_cons_succ]; rfl)) | (refine st_y (v := ?_) (a' := ?_) rfl (by rfl) rfl (fun k w' hw' => ?_) ?_ ?_; rotate_left 2; (· go_simp; with_reducible rfl); (· simp only [Act.put, List.setIfInBounds_toArray, List.set_cons_zero, List.set_cons_succ]; rfl)))
          refine st_end ?_
          intro w1 hY1
          go_wp2_with fail
          go_ret
          exact ⟨rfl, hwr.trans hY1⟩
      · obtain rfl : k = n := by omega
        have e : l = m := by rw [← List.take_length (l := l), ← List.take_length (l := m), hln, hmn]; exact ht
        go_wp2_with fail
        go_ret
        exact ⟨ret_bool (by rw [← hv, e]; simp), hwr⟩
  · have e : v = false := by
      rw [← hv, beq_eq_false_iff_ne]
      rintro rfl
      exact hlen (by rw [← hln, ← hmn])
    subst e
    go_wp2_with fail
    go_ret
    exact ⟨rfl, Ext.refl _⟩
theorem only_grow {w w' : World} {lo : Nat} (hE : Ext w w') : Cle (only w lo w.heap.size) (only w' lo w'.heap.size) := by
  rw [← only_ext (lo := lo) hE (Nat.le_refl _)]
  exact only_wide (Nat.le_refl _) hE.le
end Go.Proofs.YtgfhbachgniipaaDoor

/-! Rows of bytes: written over, counted. -/
namespace Go.Proofs.YtgfhbachgniipaaDoor
set_option linter.unusedVariables false
set_option linter.unusedSimpArgs false
open Go.RowKit
/-- n cells from A on lie in the blocks from lo on, below hi, and may be written. -/
def RowAt (w : World) (lo hi : Nat) (A : Option Addr) (n : Nat) : Prop := ∀ k, k < n → ∃ b o v, A = some ⟨b, o, none⟩ ∧ (only w lo hi).cell? ⟨b, o + k, none⟩ = some v
def There (lo hi : Nat) (w w' : World) : Prop := ∀ p v, (only w lo hi).cell? p = some v → ∃ v', (only w' lo hi).cell? p = some v'
theorem There.refl (lo hi : Nat) (w : World) : There lo hi w w := fun p v h => ⟨v, h⟩
theorem There.trans {lo hi : Nat} {a b c : World} (h : There lo hi a b) (k : There lo hi b c) : There lo hi a c := fun p v hv => by
  obtain ⟨v1, h1⟩ := h p v hv
  exact k p v1 h1
theorem There.ext {lo hi : Nat} {w w' : World} (h : Ext w w') (hh : hi ≤ w.heap.size) : There lo hi w w' := fun p v hv => ⟨v, by rw [only_ext h hh]; exact hv⟩
theorem There.set {lo hi : Nat} {w : World} (q : Addr) (u : Value) : There lo hi w (w.setCell q u) := fun p v hv => by
  have hs := only_spot hv
  obtain ⟨a, b, hc, _, cs, t, hh⟩ := only_cell hv
  obtain ⟨pb, po, ps⟩ := p
  obtain rfl : ps = none := hs
  unfold World.cell? at hc
  rw [hh] at hc
  simp only [Option.isSome_none, Bool.false_eq_true, if_false] at hc
  by_cases e : q.block = pb
  · have hlt := (Array.getElem?_eq_some_iff.1 hc).1
    have hb : (w.setCell q u).heap[pb]? = some (.cells (if q.spot.isSome then cs else cs.setIfInBounds q.off u) t (0, 0)) := by
      simp only [World.setCell, Array.getElem?_modify]
      rw [if_pos e]
      simp only at hh
      rw [hh]
      rfl
    have hz : po < (if q.spot.isSome then cs else cs.setIfInBounds q.off u).size := by split <;> simpa using hlt
    exact ⟨_, cell_only hb a b (Array.getElem?_eq_getElem hz)⟩
  · have hb : (w.setCell q u).heap[pb]? = some (.cells cs t (0, 0)) := by
      simp only [World.setCell, Array.getElem?_modify]
      rw [if_neg e]
      exact hh
    exact ⟨v, cell_only hb a b hc⟩
theorem Kind.there {lo hi : Nat} {w w' : World} (k : Kind w w') : There lo hi w w' := fun p v hv => by
  obtain ⟨v', h, _⟩ := k.only hv
  exact ⟨v', h⟩
theorem RowAt.there {lo hi : Nat} {w w' : World} {A : Option Addr} {n : Nat} (h : RowAt w lo hi A n) (k : There lo hi w w') : RowAt w' lo hi A n := fun i hi => by
  obtain ⟨b, o, v, e, hv⟩ := h i hi
  obtain ⟨v', hv'⟩ := k _ _ hv
  exact ⟨b, o, v', e, hv'⟩
theorem rowAt_nested {w : World} {lo hi : Nat} {A : Option Addr} {n : Nat} {l : List (List UInt8)} (h : rdB.Sl (only w lo hi) A n l) : RowAt w lo hi A n := fun k hk => by
  obtain ⟨b, o, A', c', e, hv, _⟩ := n_get h k hk
  exact ⟨b, o, _, e, hv⟩
def allN : List (List UInt8) → Nat → Nat
  | [], n => n
  | x :: l, n => allN l (min (n + x.length + 1) 1099511627776)
theorem allN_le : ∀ (l : List (List UInt8)) (n : Nat), n ≤ 1099511627776 → allN l n ≤ 1099511627776
  | [], n, h => h
  | x :: l, n, h => allN_le l _ (Nat.min_le_right _ _)
theorem allN_ge : ∀ (l : List (List UInt8)) (n : Nat), n ≤ 1099511627776 → n ≤ allN l n
  | [], n, h => Nat.le_refl _
  | x :: l, n, h => Nat.le_trans (by omega : n ≤ min (n + x.length + 1) 1099511627776) (allN_ge l _ (Nat.min_le_right _ _))
theorem allN_mem : ∀ (l : List (List UInt8)) (n : Nat), n ≤ 1099511627776 → allN l n < 1099511627776 → ∀ x ∈ l, n + x.length < allN l n
  | y :: l, n, h, hb, x, hx => by
    have h1 := allN_ge l (min (n + y.length + 1) 1099511627776) (Nat.min_le_right _ _)
    have e : allN (y :: l) n = allN l (min (n + y.length + 1) 1099511627776) := rfl
    rcases List.mem_cons.1 hx with rfl | hx
    · rw [e] at hb ⊢; omega
    · have := allN_mem l (min (n + y.length + 1) 1099511627776) (Nat.min_le_right _ _) hb x hx
      rw [e] at hb ⊢; omega
theorem allN_take (l : List (List UInt8)) : ∀ (k : Nat) (n : Nat) (h : k < l.length), allN (l.take (k + 1)) n = min (allN (l.take k) n + l[k].length + 1) 1099511627776 := by
  induction l with
  | nil => intro k n h; simp at h
  | cons x l ih =>
    intro k n h
    cases k with
    | zero => rfl
    | succ k => exact ih k _ (by simpa using h)
end Go.Proofs.YtgfhbachgniipaaDoor
