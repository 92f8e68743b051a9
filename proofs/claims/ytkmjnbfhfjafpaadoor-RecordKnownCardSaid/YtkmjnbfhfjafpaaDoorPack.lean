/- What lays numbers, bytes and texts: the program's pack. -/
import Derived.Test.YtkmjnbfhfjafpaaDoorBytesB
import Derived.Laws.MakeOwn
import Derived.Lib.AppendStr
namespace Go.Proofs.YtkmjnbfhfjafpaaDoor
set_option linter.unusedVariables false
set_option linter.unusedSimpArgs false
open Go.RowKit
/-- Byte number k of a number, from the right. -/
def byteAt (v : Int) (k : Nat) : UInt8 := UInt8.ofNat (v / 2 ^ (8 * k) % 256).toNat
theorem byteAt_val (v : Int) (k : Nat) : ((byteAt v k).toNat : Int) = v / 2 ^ (8 * k) % 256 := by
  unfold byteAt
  generalize v / 2 ^ (8 * k) = x
  have h1 : 0 ≤ x % 256 := Int.emod_nonneg _ (by decide)
  have h2 : x % 256 < 256 := Int.emod_lt_of_pos _ (by decide)
  rw [UInt8.toNat_ofNat', Nat.mod_eq_of_lt (by omega), Int.toNat_of_nonneg h1]
def numA (v : Int) : Nat → Array Value
  | 0 => #[.int .u8 0, .int .u8 0, .int .u8 0, .int .u8 0, .int .u8 0, .int .u8 0, .int .u8 0, .int .u8 0]
  | k + 1 => (numA v k).setIfInBounds (7 - k) (.int .u8 (byteAt v k).toNat)
theorem numA_size (v : Int) : ∀ k, (numA v k).size = 8
  | 0 => rfl
  | k + 1 => by rw [numA, Array.size_setIfInBounds]; exact numA_size v k
def num8 (v : Int) : List UInt8 := [byteAt v 7, byteAt v 6, byteAt v 5, byteAt v 4, byteAt v 3, byteAt v 2, byteAt v 1, byteAt v 0]
theorem numA_8 (v : Int) : (numA v 8).toList = (num8 v).flatMap encB := by
  unfold num8
  simp only [numA, List.flatMap_cons, List.flatMap_nil, encB]
  generalize byteAt v 0 = a; generalize byteAt v 1 = b; generalize byteAt v 2 = c; generalize byteAt v 3 = d
  generalize byteAt v 4 = e; generalize byteAt v 5 = f; generalize byteAt v 6 = g; generalize byteAt v 7 = h
  rfl
set_option maxHeartbeats 1000000 in
set_option maxRecDepth 100000 in
theorem number_any (v : Int) (hv : -9223372036854775808 ≤ v ∧ v ≤ 9223372036854775807) (w : World) : Calls Tryd.prog 65 #[.int .i64 v] w fun e w' => ∃ u, e = .returned u ∧ w'.ownsRow w.heap.size 5 1 u 8 ((num8 v).flatMap encB) ∧ Ext w w' := by
  have hmk : ∀ w : World, (Instr.makeSlice 29 (.int .i64 8) (.int .i64 8)).run Tryd.prog w = .ok (.slice (some ⟨w.heap.size, 0, none⟩) 8 8) (w.alloc (.cells #[.int .u8 0, .int .u8 0, .int .u8 0, .int .u8 0, .int .u8 0, .int .u8 0, .int .u8 0, .int .u8 0] 5)) := fun _ => by kernel_rfl
  obtain ⟨W, hW, hE, -⟩ := box1 w #[.int .u8 0, .int .u8 0, .int .u8 0, .int .u8 0, .int .u8 0, .int .u8 0, .int .u8 0, .int .u8 0] 5
  have B1 : Blk W w.heap.size 5 (numA v 0) := by rw [hW]; exact Blk.new _ _ _
  go_enter Tryd.func65, Tryd.ntmps65
  go_wp2_with fail
  rw [← hW]
  clear hW hmk
  go_loopw [8] (fun i wr => ∃ k : Nat, k ≤ 8 ∧ i = .int .i64 k ∧ Blk wr w.heap.size 5 (numA v k) ∧ Ext w wr) (fun i _ => 8 - (intOf i).toNat)
  case atStart => exact ⟨0, by omega, rfl, B1, hE⟩
  case round =>
    clear hE B1
    obtain ⟨k, hkn, rfl, hB, hwr⟩ := hrel
    by_cases hlt : k < 8
    · have hz : 7 - k < (numA v k).size := by rw [numA_size]; omega
      have x0 := hB.cell (7 - k) (Array.getElem?_eq_getElem hz)
      have f0 := hB.frozen (7 - k)
      go_wp2_with fail
      go_roundw
      case rel => exact ⟨k + 1, by omega, by go_num, (by have h := hB.set_ (7 - k) (.int .u8 (v / 2 ^ (8 * k) % 256)); rw [numA, byteAt_val]; exact h), hwr.set (Nat.le_refl _) _⟩
      case measure => simp [intOf]; omega
    · obtain rfl : k = 8 := by omega
      go_wp2_with fail
      go_ret
      refine ⟨_, rfl, ⟨by simp [num8, encB], .inr ⟨_, 8, numA v 8, rfl, Nat.le_refl _, hB, Nat.le_refl _, by decide, numA_size v 8, ?_⟩⟩, hwr⟩
      rw [numA_8]; rfl
theorem wpList_make_own {P : Program} {t e : TypeId} {sz bytes : Nat} {w : World} {ops : Array Oper} {rest : List Oper} {o : Oper} {a : Act} {Q : Exit → Act → World → Prop} (hgd : o.guard = none) (E : Elt P t e sz bytes) (x y : Operand) (ho : o.op = .makeSlice t x y) (c : Nat) (hx : a.eval x = .int .i64 0) (hy : a.eval y = .int .i64 (c : Int)) (hb : bytes * c ≤ 281474976710656) (h63 : c ≤ maxLen)
    (h : ∀ w', w'.ownsRow w.heap.size e sz (.slice (some ⟨w.heap.size, 0, none⟩) 0 c) 0 [] → w.grownBy w' none → wpList P ops Q rest (a.put o.dst (.slice (some ⟨w.heap.size, 0, none⟩) 0 c)) w') : wpList P ops Q (o :: rest) a w :=
  wpList_plain hgd fun K hK => by
    obtain ⟨i, z, hi, hz, hsz, hby, hzc⟩ := E.hi
    obtain ⟨w', hr, hown, hg⟩ := run_make_own (P := P) w w.heap.size t e i z sz E.ht hi hz hsz .i64 .i64 c (by rw [hby]; exact hb) h63 (Nat.le_refl _)
    unfold Oper.wp execOp
    simp only [ho, hx, hy, Sem.run_bind, Sem.run_pure, Result.andThen_ok, hr]
    exact hK _ _ (h w' hown hg)
theorem grown_none {w w' : World} (h : w.grownBy w' none) : Ext w w' := ⟨h.os, h.tape, h.output, h.size, fun k hk => h.block k hk (by simp)⟩
theorem strCells_enc (s : ByteArray) : Lib.strCells s = s.data.toList.flatMap encB := by
  unfold Lib.strCells
  induction s.data.toList with
  | nil => rfl
  | cons x l ih => rw [List.map_cons, List.flatMap_cons, ih]; rfl
set_option maxHeartbeats 1000000 in
set_option maxRecDepth 100000 in
theorem laidB_any (w : World) (A : Option Addr) (c : Nat) (l : List UInt8) (hS : Rd.u8.Sl w A l.length l) (hc : l.length ≤ c) (hn : l.length ≤ 4294967296) (A' : Option Addr) (c' : Nat) (k : List UInt8) (hS' : Rd.u8.Sl w A' k.length k) (hc' : k.length ≤ c') (hn' : k.length ≤ 4294967296) :
    Calls Tryd.prog 64 #[.slice A l.length c, .slice A' k.length c'] w fun e w' => ∃ v, e = .returned v ∧ w'.ownsRow w.heap.size 5 1 v (l.length + k.length) ((l ++ k).flatMap encB) ∧ Ext w w' := by
  have hck := b_cells hS'
  have h1k := encB_one k
  rw [List.flatMap_append]
  obtain ⟨m, hkm⟩ : ∃ n, k.length = n := ⟨_, rfl⟩
  rw [hkm] at hck hc' hn' ⊢
  generalize k.flatMap encB = M at *
  clear hS' hkm
  obtain ⟨n, hln⟩ : ∃ n, l.length = n := ⟨_, rfl⟩
  have hcl := b_cells hS
  have h1 := encB_one l
  rw [hln] at hcl hc hn ⊢
  generalize l.flatMap encB = L at *
  clear hS hln
  go_enter Tryd.func64, Tryd.ntmps64
  go_wp2_with (first | (refine wpList_make_own rfl elt_bytes (.const (.int .i64 0)) (.tmp 11) rfl (n + m + 16) rfl (by go_num) (by omega) (by unfold maxLen; omega) ?_; intro w1 hown1 hg1; have hE1 := grown_none hg1; have hcl1 : Cells w1 A n 1 L := ⟨hcl.1, hcl.2.1, fun ad h j u hu => hE1.cellk (hcl.2.2 ad h j u hu)⟩) | (at_builtin; refine wpList_append_cells rfl elt_bytes (.tmp 13) (.tmp 14) rfl hown1 rfl rfl hcl1 h1 (by unfold maxLen; omega) (by omega) hE1.le ?_; intro v2 w2 hown2 hg2; have hE2 := grown_ext2 hE1 hown1 hg2 (Nat.le_refl _); have hck2 : Cells w2 A' m 1 M := ⟨hck.1, hck.2.1, fun ad h j u hu => hE2.cellk (hck.2.2 ad h j u hu)⟩; simp only [Nat.zero_add, List.nil_append] at hown2) | (at_builtin; refine wpList_append_cells rfl elt_bytes (.tmp 15) (.tmp 16) rfl hown2 rfl rfl hck2 h1k (by unfold maxLen; omega) (by omega) hE2.le ?_; intro v3 w3 hown3 hg3; have hE3 := grown_ext2 hE2 hown2 hg3 (Nat.le_refl _)))
  go_ret
  exact ⟨_, rfl, hown3, hE3⟩
set_option maxHeartbeats 1000000 in
set_option maxRecDepth 100000 in
theorem laidS_any (w : World) (A : Option Addr) (c : Nat) (l : List UInt8) (hS : Rd.u8.Sl w A l.length l) (hc : l.length ≤ c) (hn : l.length ≤ 4294967296) (s : ByteArray) (hs : s.size ≤ 4294967296) :
    Calls Tryd.prog 63 #[.slice A l.length c, .string s] w fun e w' => ∃ v, e = .returned v ∧ w'.ownsRow w.heap.size 5 1 v (l.length + s.size) ((l ++ s.data.toList).flatMap encB) ∧ Ext w w' := by
  obtain ⟨i0, hi, hz0, hz1, hz2⟩ := info_parts (show (Tryd.prog.info? 5).map (fun i => (i.zero, i.size, i.bytes)) = some (some (.int .u8 0), 1, 1) by kernel_rfl)
  rw [List.flatMap_append, ← strCells_enc]
  obtain ⟨n, hln⟩ : ∃ n, l.length = n := ⟨_, rfl⟩
  have hcl := b_cells hS
  have h1 := encB_one l
  rw [hln] at hcl hc hn ⊢
  generalize l.flatMap encB = L at *
  clear hS hln
  go_enter Tryd.func63, Tryd.ntmps63
  go_wp2_with (first | (refine wpList_make_own rfl elt_bytes (.const (.int .i64 0)) (.tmp 11) rfl (n + s.size + 16) rfl (by go_num) (by omega) (by unfold maxLen; omega) ?_; intro w1 hown1 hg1; have hE1 := grown_none hg1; have hcl1 : Cells w1 A n 1 L := ⟨hcl.1, hcl.2.1, fun ad h j u hu => hE1.cellk (hcl.2.2 ad h j u hu)⟩) | (at_builtin; refine wpList_append_cells rfl elt_bytes (.tmp 13) (.tmp 14) rfl hown1 rfl rfl hcl1 h1 (by unfold maxLen; omega) (by omega) hE1.le ?_; intro v2 w2 hown2 hg2; have hE2 := grown_ext2 hE1 hown1 hg2 (Nat.le_refl _); simp only [Nat.zero_add, List.nil_append] at hown2) | (at_builtin; refine Lib.wpList_append_own_string _ rfl (.tmp 15) (.tmp 16) 29 9 rfl w.heap.size 5 i0 Tryd.underlying29 Tryd.underlying9 hi hz0 hz1 hz2 _ _ _ rfl hown2 s rfl (by unfold maxLen; omega) (by omega) hE2.le ?_; intro v3 w3 hown3 hg3 _; have hE3 := grown_ext2 hE2 hown2 hg3 (Nat.le_refl _)))
  go_ret
  exact ⟨_, rfl, hown3, hE3⟩
theorem num8_len (v : Int) : (num8 v).length = 8 := rfl
set_option maxHeartbeats 1000000 in
set_option maxRecDepth 100000 in
theorem packInt_any (w : World) (A : Option Addr) (c : Nat) (l : List UInt8) (hS : Rd.u8.Sl w A l.length l) (hc : l.length ≤ c) (hn : l.length ≤ 4294967296) (v : Int) (hv : -9223372036854775808 ≤ v ∧ v ≤ 9223372036854775807) :
    Calls Tryd.prog 31 #[.slice A l.length c, .int .i64 v] w fun e w' => ∃ u, e = .returned u ∧ w'.ownsRow w.heap.size 5 1 u (l.length + 8) ((l ++ num8 v).flatMap encB) ∧ Ext w w' := by
  have hla := fun (w' : World) (h : Ext w w') => laidB_any w' A c l (hS.ext h) hc hn
  obtain ⟨n, hln⟩ : ∃ n, l.length = n := ⟨_, rfl⟩
  rw [hln] at hla ⊢
  clear hS
  go_enter Tryd.func31, Tryd.ntmps31
  go_wp2_with (first | (go_at_call 65; (with_reducible refine (number_any v hv _).mono ?_); rintro e w1 ⟨u1, rfl, hown1, hE1⟩; obtain ⟨A1, c1, hu1, h1c, -, h1S⟩ := own_bytes (lo := 0) (hi := w1.heap.size) (l := num8 v) (by rw [num8_len]; exact hown1) (Nat.zero_le _) (Nat.le_refl _); rw [num8_len] at hu1; subst hu1; have h2 := hla w1 hE1 A1 c1 (num8 v) (h1S.mono only_cle) h1c (by rw [num8_len]; decide); rw [num8_len] at h2; clear hla hown1 h1S) | (go_at_call 64; (with_reducible refine h2.mono ?_); rintro e w2 ⟨u2, rfl, hown2, hE2⟩))
  go_ret
  exact ⟨_, rfl, own_base hown2 hE1.le, hE1.trans hE2⟩
set_option maxHeartbeats 1000000 in
set_option maxRecDepth 100000 in
theorem packBlob_any (w : World) (A : Option Addr) (c : Nat) (l : List UInt8) (hS : Rd.u8.Sl w A l.length l) (hc : l.length ≤ c) (hn : l.length ≤ 1073741824) (A' : Option Addr) (c' : Nat) (k : List UInt8) (hS' : Rd.u8.Sl w A' k.length k) (hc' : k.length ≤ c') (hn' : k.length ≤ 4294967296) :
    Calls Tryd.prog 32 #[.slice A l.length c, .slice A' k.length c'] w fun e w' => ∃ u, e = .returned u ∧ w'.ownsRow w.heap.size 5 1 u (l.length + 8 + k.length) ((l ++ num8 k.length ++ k).flatMap encB) ∧ Ext w w' := by
  have h1 := packInt_any w A c l hS hc (by omega) k.length (by omega)
  have hla := fun (w' : World) (h : Ext w w') A1 c1 hS1 hc1 => laidB_any w' A1 c1 (l ++ num8 k.length) hS1 hc1 (by rw [List.length_append, num8_len]; omega) A' c' k (hS'.ext h) hc' hn'
  have hl : (l ++ num8 k.length).length = l.length + 8 := by rw [List.length_append, num8_len]
  rw [hl] at hla
  obtain ⟨m, hkm⟩ : ∃ n, k.length = n := ⟨_, rfl⟩
  obtain ⟨n, hln⟩ : ∃ n, l.length = n := ⟨_, rfl⟩
  rw [hln] at h1 hla hl ⊢
  rw [hkm] at h1 hla hl ⊢
  have HL := Lib.hid hl
  clear hS hS' hln hkm hl
  go_enter Tryd.func32, Tryd.ntmps32
  go_wp2_with (first | (go_at_call 31; (with_reducible refine h1.mono ?_); rintro e w1 ⟨u1, rfl, hown1, hE1⟩; obtain ⟨A1, c1, hu1, h1c, -, h1S⟩ := own_bytes (lo := 0) (hi := w1.heap.size) (l := l ++ num8 m) (by rw [HL.out]; exact hown1) (Nat.zero_le _) (Nat.le_refl _); rw [HL.out] at hu1 h1c h1S; subst hu1; have h2 := hla w1 hE1 A1 c1 (h1S.mono only_cle) h1c; clear hla hown1 h1S h1) | (go_at_call 64; (with_reducible refine h2.mono ?_); rintro e w2 ⟨u2, rfl, hown2, hE2⟩))
  go_ret
  exact ⟨_, rfl, own_base hown2 hE1.le, hE1.trans hE2⟩
set_option maxHeartbeats 1000000 in
set_option maxRecDepth 100000 in
theorem packText_any (w : World) (A : Option Addr) (c : Nat) (l : List UInt8) (hS : Rd.u8.Sl w A l.length l) (hc : l.length ≤ c) (hn : l.length ≤ 1073741824) (s : ByteArray) (hs : s.size ≤ 4294967296) :
    Calls Tryd.prog 30 #[.slice A l.length c, .string s] w fun e w' => ∃ u, e = .returned u ∧ w'.ownsRow w.heap.size 5 1 u (l.length + 8 + s.size) ((l ++ num8 s.size ++ s.data.toList).flatMap encB) ∧ Ext w w' := by
  have h1 := packInt_any w A c l hS hc (by omega) s.size (by omega)
  have hla := fun (w' : World) A1 c1 hS1 hc1 => laidS_any w' A1 c1 (l ++ num8 s.size) hS1 hc1 (by rw [List.length_append, num8_len]; omega) s hs
  have hl : (l ++ num8 s.size).length = l.length + 8 := by rw [List.length_append, num8_len]
  rw [hl] at hla
  obtain ⟨n, hln⟩ : ∃ n, l.length = n := ⟨_, rfl⟩
  rw [hln] at h1 hla hl ⊢
  have HL := Lib.hid hl
  clear hS hln hl
  go_enter Tryd.func30, Tryd.ntmps30
  go_wp2_with (first | (go_at_call 31; (with_reducible refine h1.mono ?_); rintro e w1 ⟨u1, rfl, hown1, hE1⟩; obtain ⟨A1, c1, hu1, h1c, -, h1S⟩ := own_bytes (lo := 0) (hi := w1.heap.size) (l := l ++ num8 s.size) (by rw [HL.out]; exact hown1) (Nat.zero_le _) (Nat.le_refl _); rw [HL.out] at hu1 h1c h1S; subst hu1; have h2 := hla w1 A1 c1 (h1S.mono only_cle) h1c; clear hla hown1 h1S h1) | (go_at_call 63; (with_reducible refine h2.mono ?_); rintro e w2 ⟨u2, rfl, hown2, hE2⟩))
  go_ret
  exact ⟨_, rfl, own_base hown2 hE1.le, hE1.trans hE2⟩
end Go.Proofs.YtkmjnbfhfjafpaaDoor
