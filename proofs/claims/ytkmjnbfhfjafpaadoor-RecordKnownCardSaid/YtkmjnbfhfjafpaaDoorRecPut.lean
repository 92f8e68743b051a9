/- Records: the bytes of one, by the program. -/
import Derived.Test.YtkmjnbfhfjafpaaDoorRecF
import Derived.Test.YtkmjnbfhfjafpaaDoorPack
namespace Go.Proofs.YtkmjnbfhfjafpaaDoor
set_option linter.unusedVariables false
set_option linter.unusedSimpArgs false
open Go.RowKit
def txtB (s : ByteArray) : List UInt8 := num8 s.size ++ s.data.toList
def numsB (l : List Int) : List UInt8 := l.flatMap num8
def blobsB (l : List (List UInt8)) : List UInt8 := l.flatMap fun x => num8 x.length ++ x
def recB (r : Rec) : List UInt8 := txtB r.ten ++ numsB [r.clock, r.kind, r.code, r.id] ++ txtB r.st ++ txtB r.su ++ numsB [r.slot, r.uses, r.num, r.sealed.length] ++ blobsB r.sealed
/-- Bytes of the call's own. -/
def OwnB (B : Nat) (w : World) (v : Value) (L : List UInt8) : Prop := w.ownsRow B 5 1 v L.length (L.flatMap encB)
theorem OwnB.sl {B : Nat} {w : World} {v : Value} {L : List UInt8} (h : OwnB B w v L) : ∃ A c, v = .slice A L.length c ∧ L.length ≤ c ∧ Rd.u8.Sl w A L.length L := by
  obtain ⟨A, c, hv, h1, _, h2⟩ := own_bytes (lo := 0) (hi := w.heap.size) h (Nat.zero_le _) (Nat.le_refl _)
  exact ⟨A, c, hv, h1, h2.mono only_cle⟩
theorem txtB_len (s : ByteArray) : (txtB s).length = 8 + s.size := by
  unfold txtB; rw [List.length_append, num8_len, Array.length_toList]; rfl
theorem numsB_one (l : List Int) (k : Nat) (h : k < l.length) : numsB (l.take (k + 1)) = numsB (l.take k) ++ num8 l[k] := by
  unfold numsB
  rw [List.take_succ_eq_append_getElem h, List.flatMap_append]
  simp
theorem numsB_len (l : List Int) : (numsB l).length = 8 * l.length := by
  unfold numsB
  induction l with
  | nil => rfl
  | cons x l ih => rw [List.flatMap_cons, List.length_append, ih, num8_len, List.length_cons]; omega
theorem blobsB_one (l : List (List UInt8)) (k : Nat) (h : k < l.length) : blobsB (l.take (k + 1)) = blobsB (l.take k) ++ (num8 l[k].length ++ l[k]) := by
  unfold blobsB
  rw [List.take_succ_eq_append_getElem h, List.flatMap_append]
  simp
theorem blobsB_len (l : List (List UInt8)) (h : ∀ x ∈ l, x.length ≤ 1048576) : ∀ k, (blobsB (l.take k)).length ≤ k * 1048584
  | 0 => by simp [blobsB]
  | k + 1 => by
    have ih := blobsB_len l h k
    by_cases hk : k < l.length
    · rw [blobsB_one l k hk, List.length_append, List.length_append, num8_len]
      have := h _ (List.getElem_mem hk)
      omega
    · rw [List.take_of_length_le (by omega)]
      rw [List.take_of_length_le (by omega)] at ih
      exact Nat.le_trans ih (Nat.mul_le_mul_right _ (Nat.le_succ k))
/-- Int behind bytes of the call's own. -/
theorem intO {B : Nat} {w : World} {v : Value} {L : List UInt8} (h : OwnB B w v L) (hB : B ≤ w.heap.size) (hL : L.length ≤ 4294967296) (x : Int) (hx : -9223372036854775808 ≤ x ∧ x ≤ 9223372036854775807) :
    Calls Tryd.prog 31 #[v, .int .i64 x] w fun e w' => ∃ u, e = .returned u ∧ OwnB B w' u (L ++ num8 x) ∧ Ext w w' := by
  obtain ⟨A, c, rfl, h1, h2⟩ := h.sl
  refine (packInt_any w A c L h2 h1 hL x hx).mono ?_
  rintro e w' ⟨u, rfl, hu, hE⟩
  refine ⟨u, rfl, ?_, hE⟩
  unfold OwnB
  rw [List.length_append, num8_len]
  exact own_base hu hB
theorem textO {B : Nat} {w : World} {v : Value} {L : List UInt8} (h : OwnB B w v L) (hB : B ≤ w.heap.size) (hL : L.length ≤ 1073741824) (s : ByteArray) (hs : s.size ≤ 4294967296) :
    Calls Tryd.prog 30 #[v, .string s] w fun e w' => ∃ u, e = .returned u ∧ OwnB B w' u (L ++ txtB s) ∧ Ext w w' := by
  obtain ⟨A, c, rfl, h1, h2⟩ := h.sl
  refine (packText_any w A c L h2 h1 hL s hs).mono ?_
  rintro e w' ⟨u, rfl, hu, hE⟩
  refine ⟨u, rfl, ?_, hE⟩
  unfold OwnB txtB
  have e1 : s.data.toList.length = s.size := by rw [Array.length_toList]; rfl
  rw [List.length_append, List.length_append, num8_len, e1, ← Nat.add_assoc, ← List.append_assoc]
  exact own_base hu hB
theorem blobO {B : Nat} {w : World} {v : Value} {L : List UInt8} (h : OwnB B w v L) (hB : B ≤ w.heap.size) (hL : L.length ≤ 1073741824) (A' : Option Addr) (c' : Nat) (p : List UInt8) (hS : Rd.u8.Sl w A' p.length p) (hc : p.length ≤ c') (hp : p.length ≤ 4294967296) :
    Calls Tryd.prog 32 #[v, .slice A' p.length c'] w fun e w' => ∃ u, e = .returned u ∧ OwnB B w' u (L ++ (num8 p.length ++ p)) ∧ Ext w w' := by
  obtain ⟨A, c, rfl, h1, h2⟩ := h.sl
  refine (packBlob_any w A c L h2 h1 hL A' c' p hS hc hp).mono ?_
  rintro e w' ⟨u, rfl, hu, hE⟩
  refine ⟨u, rfl, ?_, hE⟩
  unfold OwnB
  rw [List.length_append, List.length_append, num8_len, ← Nat.add_assoc, ← List.append_assoc]
  exact own_base hu hB
theorem OwnB.nil (B : Nat) (w : World) : OwnB B w (.slice none 0 0) [] := World.ownsRow_nil _ _ _ _
theorem OwnB.ext {B : Nat} {w w' : World} {v : Value} {L : List UInt8} (h : OwnB B w v L) (hE : Ext w w') : OwnB B w' v L := own_ext h hE
theorem arr4 (a b c d : Int) (k : Nat) (h : k < 4) : (#[.int .i64 a, .int .i64 b, .int .i64 c, .int .i64 d] : Array Value)[k]? = some (.int .i64 ([a, b, c, d][k]'h)) := by
  obtain rfl | rfl | rfl | rfl : k = 0 ∨ k = 1 ∨ k = 2 ∨ k = 3 := by omega
  all_goals rfl
structure RecOk (r : Rec) : Prop where
  ten : r.ten.size ≤ 1048576
  st : r.st.size ≤ 1048576
  su : r.su.size ≤ 1048576
  n : r.sealed.length ≤ 1000
  m : ∀ x ∈ r.sealed, x.length ≤ 1048576
  clock : -9223372036854775808 ≤ r.clock ∧ r.clock ≤ 9223372036854775807
  kind : -9223372036854775808 ≤ r.kind ∧ r.kind ≤ 9223372036854775807
  code : -9223372036854775808 ≤ r.code ∧ r.code ≤ 9223372036854775807
  id : -9223372036854775808 ≤ r.id ∧ r.id ≤ 9223372036854775807
  slot : -9223372036854775808 ≤ r.slot ∧ r.slot ≤ 9223372036854775807
  uses : -9223372036854775808 ≤ r.uses ∧ r.uses ≤ 9223372036854775807
  num : -9223372036854775808 ≤ r.num ∧ r.num ≤ 9223372036854775807
/-- What Put leaves: nothing and the error, or the bytes. -/
def PutP (w : World) (r : Rec) (e : Ending) (w' : World) : Prop :=
  (checkG r ≠ 0 → e = .returned (.tuple #[.slice none 0 0, .int .i64 (checkG r)])) ∧ (checkG r = 0 → ∃ u, e = .returned (.tuple #[u, .int .i64 0]) ∧ OwnB w.heap.size w' u (recB r)) ∧ Ext w w'
set_option maxHeartbeats 9000000 in
set_option maxRecDepth 100000 in
theorem put_any (w : World) (r : Rec) (hr : RecOk r) (A : Option Addr) (c : Nat) (hS : rdB.Sl w A r.sealed.length r.sealed) (hc : r.sealed.length ≤ c) :
    Calls Tryd.prog 12 #[.agg #[.string r.ten, .int .i64 r.clock, .int .i64 r.kind, .int .i64 r.code, .int .i64 r.id, .string r.st, .string r.su, .int .i64 r.slot, .int .i64 r.uses, .int .i64 r.num, .slice A r.sealed.length c]] w (PutP w r) := by
  obtain ⟨W, hW, hE, bx⟩ := box1 w #[.string r.ten, .int .i64 r.clock, .int .i64 r.kind, .int .i64 r.code, .int .i64 r.id, .string r.st, .string r.su, .int .i64 r.slot, .int .i64 r.uses, .int .i64 r.num, .slice A r.sealed.length c] 25
  have x0 : W.cell? ⟨w.heap.size, 0, none⟩ = some (.string r.ten) := bx 0 _ rfl
  have r0 := fun (w' : World) (h : Ext W w') => h.cellk x0
  have x1 : W.cell? ⟨w.heap.size, 1, none⟩ = some (.int .i64 r.clock) := bx 1 _ rfl
  have r1 := fun (w' : World) (h : Ext W w') => h.cellk x1
  have x2 : W.cell? ⟨w.heap.size, 2, none⟩ = some (.int .i64 r.kind) := bx 2 _ rfl
  have r2 := fun (w' : World) (h : Ext W w') => h.cellk x2
  have x3 : W.cell? ⟨w.heap.size, 3, none⟩ = some (.int .i64 r.code) := bx 3 _ rfl
  have r3 := fun (w' : World) (h : Ext W w') => h.cellk x3
  have x4 : W.cell? ⟨w.heap.size, 4, none⟩ = some (.int .i64 r.id) := bx 4 _ rfl
  have r4 := fun (w' : World) (h : Ext W w') => h.cellk x4
  have x5 : W.cell? ⟨w.heap.size, 5, none⟩ = some (.string r.st) := bx 5 _ rfl
  have r5 := fun (w' : World) (h : Ext W w') => h.cellk x5
  have x6 : W.cell? ⟨w.heap.size, 6, none⟩ = some (.string r.su) := bx 6 _ rfl
  have r6 := fun (w' : World) (h : Ext W w') => h.cellk x6
  have x7 : W.cell? ⟨w.heap.size, 7, none⟩ = some (.int .i64 r.slot) := bx 7 _ rfl
  have r7 := fun (w' : World) (h : Ext W w') => h.cellk x7
  have x8 : W.cell? ⟨w.heap.size, 8, none⟩ = some (.int .i64 r.uses) := bx 8 _ rfl
  have r8 := fun (w' : World) (h : Ext W w') => h.cellk x8
  have x9 : W.cell? ⟨w.heap.size, 9, none⟩ = some (.int .i64 r.num) := bx 9 _ rfl
  have r9 := fun (w' : World) (h : Ext W w') => h.cellk x9
  have x10 : W.cell? ⟨w.heap.size, 10, none⟩ = some (.slice A r.sealed.length c) := bx 10 _ rfl
  have r10 := fun (w' : World) (h : Ext W w') => h.cellk x10
  clear bx
  have hck := check_any W r A c (hS.ext hE) hc (by have := hr.n; omega) (fun x hx => by have := hr.m x hx; omega) (by have := hr.ten; omega) (by have := hr.st; omega) (by have := hr.su; omega)
  obtain ⟨P, hP⟩ : ∃ P, PutP w r = P := ⟨_, rfl⟩
  obtain ⟨v, hv⟩ : ∃ v, checkG r = v := ⟨_, rfl⟩
  rw [hv] at hck
  rw [hP]
  have hY : Ext W W := Ext.refl W
  obtain ⟨n, hln⟩ : ∃ n, r.sealed.length = n := ⟨_, rfl⟩
  rw [hln] at hS hc hW x10 r10 hck ⊢
  have HP := Lib.hid hP
  have HV := Lib.hid hv
  clear hP hv
  by_cases h0 : v = 0
  · have h0' : (v != 0) = false := by simpa using h0
    have hz : checkG r = 0 := HV.out.trans h0
    subst h0
    have t1 := fun (w' : World) => textO (B := w.heap.size) (OwnB.nil w.heap.size w')
    go_enter Tryd.func12, Tryd.ntmps12
    go_upto_region 1 with fail
    rw [← hW]
    clear hW
    go_upto_region 5 with (first | (go_at_call 14; (with_reducible refine hck.mono ?_); rintro e w1 ⟨rfl, hE1⟩; have hX1 : Ext W w1 := (by (repeat (first | assumption | exact Ext.refl _ | refine Ext.drew ?_ | refine Ext.alloc ?_ _ | refine Ext.drewN ?_ _ | refine Ext.trans ?_ (by assumption))))) | (go_at_call 30; (with_reducible refine (t1 _ (Nat.le_trans hE.le (Ext.le hX1)) (by decide) r.ten (by have := hr.ten; omega)).mono ?_); rintro e w2 ⟨v2, rfl, hO2, hE2⟩; have hX2 : Ext W w2 := (by (repeat (first | assumption | exact Ext.refl _ | refine Ext.drew ?_ | refine Ext.alloc ?_ _ | refine Ext.drewN ?_ _ | refine Ext.trans ?_ (by assumption))))))
    clear hck t1 hE1 hE2
    obtain ⟨L0, hL0⟩ : ∃ L, ([] ++ txtB r.ten) = L := ⟨_, rfl⟩
    rw [hL0] at hO2
    have hl0 : L0.length ≤ 1048584 := by rw [← hL0]; have := hr.ten; have e1 : r.ten.data.toList.length = r.ten.size := by rw [Array.length_toList]; rfl
                                         unfold txtB; rw [List.nil_append, List.length_append, num8_len, e1]; omega
    have HL0 := Lib.hid hL0
    clear hL0
    obtain ⟨W5, hW5, hE5, b5⟩ := box1 w2 #[.int .i64 r.clock, .int .i64 r.kind, .int .i64 r.code, .int .i64 r.id] 3
    have c5 := fun k (h : k < 4) => b5 k _ (arr4 r.clock r.kind r.code r.id k h)
    have hb5 : ∀ x ∈ [r.clock, r.kind, r.code, r.id], -9223372036854775808 ≤ x ∧ x ≤ 9223372036854775807 := by
      intro x hx
      simp only [List.mem_cons, List.not_mem_nil, or_false] at hx
      rcases hx with rfl | rfl | rfl | rfl
      · exact hr.clock
      · exact hr.kind
      · exact hr.code
      · exact hr.id
    have hX5 := hX2.trans hE5
    clear b5
    go_wp2_with fail
    rw [← hW5]
    clear hW5
    have hO5 := hO2.ext hE5
    clear hE5 hO2
    go_loopw [5, 30] (fun s i wr => ∃ k : Nat, k ≤ 4 ∧ i = .int .i64 k ∧ OwnB w.heap.size wr s (L0 ++ numsB ([r.clock, r.kind, r.code, r.id].take k)) ∧ Ext W5 wr) (fun _ i _ => 4 - (intOf i).toNat)
    case atStart => exact ⟨0, by omega, rfl, by simpa [numsB] using hO5, Ext.refl _⟩
    case round =>
      obtain ⟨k, hk4, rfl, hO, hwr⟩ := hrel
      by_cases hlt : k < 4
      · have x0 := hwr.cellk (c5 k hlt)
        have hb := hb5 _ (List.getElem_mem (l := [r.clock, r.kind, r.code, r.id]) (n := k) hlt)
        have hone := numsB_one [r.clock, r.kind, r.code, r.id] k hlt
        have hlen := numsB_len ([r.clock, r.kind, r.code, r.id].take k)
        rw [List.length_take] at hlen
        generalize [r.clock, r.kind, r.code, r.id][k]'hlt = z at *
        have hi := intO hO (Nat.le_trans hE.le (hX5.trans hwr).le) (by rw [List.length_append, hlen]; omega) z hb
        rw [List.append_assoc, ← hone] at hi
        clear hone hlen hb
        go_wp2_with (go_at_call 31; (with_reducible refine hi.mono ?_); rintro e w9 ⟨v9, rfl, hO9, hE9⟩)
        go_roundw
        case rel => first | exact ⟨k + 1, by omega, by go_num, hO9, hwr.trans hE9⟩ | ((repeat apply Exists.intro); exact ⟨⟨k + 1, by omega, by go_num, hO9, hwr.trans hE9⟩, rfl⟩)
        case measure => simp [intOf]; omega
      · obtain rfl : k = 4 := by omega
        have hXr : Ext W _ := hX5.trans hwr
        obtain ⟨L1, hL1⟩ : ∃ L, L0 ++ numsB ([r.clock, r.kind, r.code, r.id].take 4) = L := ⟨_, rfl⟩
        have hl1 : L1.length ≤ 1048616 := by rw [← hL1, List.length_append, numsB_len]; simp; omega
        rw [hL1] at hO
        have HL1 := Lib.hid hL1
        clear hO5 c5 hb5 hL1
        go_upto_region 10 with fail
        have p5 := fun (w' : World) (h : Ext wr w') => r5 w' (hXr.trans h)
        have p6 := fun (w' : World) (h : Ext wr w') => r6 w' (hXr.trans h)
        have hYr : Ext wr wr := Ext.refl wr
        refine wp_region_noPanic ?_
        refine tr_start (.y 0 (.y 1 (.y 2 (.y 4 (.y 5 (.e 3 (.e 6 (.y 7 .nil)))))))) (fun w' => Ext wr w') (by kernel_rfl) (by kernel_rfl) (fun _ _ _ _ _ h => h) (by (repeat (first | assumption | exact Ext.refl _ | refine Ext.drew ?_ | refine Ext.alloc ?_ _ | refine Ext.drewN ?_ _ | refine Ext.trans ?_ (by assumption)))) ?_
        have hYd : Ext wr wr.drew := by (repeat (first | assumption | exact Ext.refl _ | refine Ext.drew ?_ | refine Ext.alloc ?_ _ | refine Ext.drewN ?_ _ | refine Ext.trans ?_ (by assumption)))
        generalize wr.drew = wd at hYd ⊢
        iterate 5 (first | (refine tr_off (a' := ?_) rfl rfl (by rfl) ?_ ?_; rotate_left 1; (· simp only [Act.put, List.setIfInBounds_toArray, List.set_cons_zero, List.set_cons_succ]; rfl)) | (refine tr_y (v := ?_) (a' := ?_) rfl rfl (by rfl) (fun w' hw' => ?_) ?_ ?_; rotate_left 2; (· go_simp; with_reducible rfl); (· simp only [Act.put, List.setIfInBounds_toArray, List.set_cons_zero, List.set_cons_succ]; rfl)))
        have hT1 := textO (hO.ext hYd) (Nat.le_trans hE.le (hXr.trans hYd).le) (by omega) r.st (by have := hr.st; omega)
        refine tr_call (args := ?_) rfl Tryd.func30 (by kernel_rfl) rfl (by rfl) rfl rfl ?_ ?_
        rotate_left 1
        · go_simp; rfl
        (with_reducible refine (hT1).mono ?_)
        rintro e w3 ⟨v3, rfl, hO3, hE3⟩
        refine ⟨_, _, rfl, (hYd.trans hE3), (by simp only [Act.put, List.setIfInBounds_toArray, List.set_cons_zero, List.set_cons_succ]; rfl), ?_⟩
        have e3 : (L1 ++ txtB r.st).length ≤ 3145728 := by
          have e1 : r.st.data.toList.length = r.st.size := by rw [Array.length_toList]; rfl
          have := hr.st
          unfold txtB; rw [List.length_append, List.length_append, num8_len, e1]; omega
        have hT2 := textO hO3 (Nat.le_trans hE.le (hXr.trans (hYd.trans hE3)).le) (by omega) r.su (by have := hr.su; omega)
        refine tr_call (args := ?_) rfl Tryd.func30 (by kernel_rfl) rfl (by rfl) rfl rfl ?_ ?_
        rotate_left 1
        · go_simp; rfl
        (with_reducible refine (hT2).mono ?_)
        rintro e w4 ⟨v4, rfl, hO4, hE4⟩
        refine ⟨_, _, rfl, (hYd.trans (hE3.trans hE4)), (by simp only [Act.put, List.setIfInBounds_toArray, List.set_cons_zero, List.set_cons_succ]; rfl), ?_⟩
        (first | (refine tr_off (a' := ?_) rfl rfl (by rfl) ?_ ?_; rotate_left 1; (· simp only [Act.put, List.setIfInBounds_toArray, List.set_cons_zero, List.set_cons_succ]; rfl)) | (refine tr_y (v := ?_) (a' := ?_) rfl rfl (by rfl) (fun w' hw' => ?_) ?_ ?_; rotate_left 2; (· go_simp; with_reducible rfl); (· simp only [Act.put, List.setIfInBounds_toArray, List.set_cons_zero, List.set_cons_succ]; rfl)))
        refine tr_end (NoPanic.normal ?_)
        have hX4 : Ext W w4 := hXr.trans (hYd.trans (hE3.trans hE4))
        obtain ⟨L2, hL2⟩ : ∃ L, L1 ++ txtB r.st ++ txtB r.su = L := ⟨_, rfl⟩
        have hl2 : L2.length ≤ 5242880 := by
          have := hr.su
          rw [← hL2, List.length_append, txtB_len]; omega
        rw [hL2] at hO4
        have HL2 := Lib.hid hL2
        have hnn : -9223372036854775808 ≤ (n : Int) ∧ (n : Int) ≤ 9223372036854775807 := by have := hr.n; omega
        clear hT1 hT2 hO3 hE3 hE4 hO p5 p6 hYd hYr hL2 e3
        have z7 := r7 w4 hX4
        have z8 := r8 w4 hX4
        have z9 := r9 w4 hX4
        have z10 := r10 w4 hX4
        obtain ⟨W5, hW5, hE5, b5⟩ := box1 w4 #[.int .i64 r.slot, .int .i64 r.uses, .int .i64 r.num, .int .i64 (n : Int)] 3
        have c5 := fun k (h : k < 4) => b5 k _ (arr4 r.slot r.uses r.num (n : Int) k h)
        have hb5 : ∀ x ∈ [r.slot, r.uses, r.num, (n : Int)], -9223372036854775808 ≤ x ∧ x ≤ 9223372036854775807 := by
          intro x hx
          simp only [List.mem_cons, List.not_mem_nil, or_false] at hx
          rcases hx with rfl | rfl | rfl | rfl
          · exact hr.slot
          · exact hr.uses
          · exact hr.num
          · exact hnn
        have hX5 := hX4.trans hE5
        clear b5
        go_wp2_with fail
        rw [← hW5]
        clear hW5
        have hO5 := hO4.ext hE5
        clear hE5 hO4
        go_loopw [5, 56] (fun s i wr => ∃ k : Nat, k ≤ 4 ∧ i = .int .i64 k ∧ OwnB w.heap.size wr s (L2 ++ numsB ([r.slot, r.uses, r.num, (n : Int)].take k)) ∧ Ext W5 wr) (fun _ i _ => 4 - (intOf i).toNat)
        case atStart => exact ⟨0, by omega, rfl, by simpa [numsB] using hO5, Ext.refl _⟩
        case round =>
          obtain ⟨k, hk4, rfl, hO, hwr⟩ := hrel
          by_cases hlt : k < 4
          · have x0 := hwr.cellk (c5 k hlt)
            have hb := hb5 _ (List.getElem_mem (l := [r.slot, r.uses, r.num, (n : Int)]) (n := k) hlt)
            have hone := numsB_one [r.slot, r.uses, r.num, (n : Int)] k hlt
            have hlen := numsB_len ([r.slot, r.uses, r.num, (n : Int)].take k)
            rw [List.length_take] at hlen
            generalize [r.slot, r.uses, r.num, (n : Int)][k]'hlt = z at *
            have hi := intO hO (Nat.le_trans hE.le (hX5.trans hwr).le) (by rw [List.length_append, hlen]; omega) z hb
            rw [List.append_assoc, ← hone] at hi
            clear hone hlen hb
            go_wp2_with (go_at_call 31; (with_reducible refine hi.mono ?_); rintro e w9 ⟨v9, rfl, hO9, hE9⟩)
            go_roundw
            case rel => first | exact ⟨k + 1, by omega, by go_num, hO9, hwr.trans hE9⟩ | ((repeat apply Exists.intro); exact ⟨⟨k + 1, by omega, by go_num, hO9, hwr.trans hE9⟩, rfl⟩)
            case measure => simp [intOf]; omega
          · obtain rfl : k = 4 := by omega
            have hXr2 : Ext W _ := hX5.trans hwr
            obtain ⟨L3, hL3⟩ : ∃ L, L2 ++ numsB ([r.slot, r.uses, r.num, (n : Int)].take 4) = L := ⟨_, rfl⟩
            have hl3 : L3.length ≤ 5242912 := by rw [← hL3, List.length_append, numsB_len]; simp; omega
            rw [hL3] at hO
            have HL3 := Lib.hid hL3
            have z10 := r10 _ hXr2
            clear hO5 c5 hb5 hL3
            go_wp2_with fail
            go_loopw [5, 67] (fun s i wx => ∃ k : Nat, k ≤ n ∧ i = .int .i64 k ∧ OwnB w.heap.size wx s (L3 ++ blobsB (r.sealed.take k)) ∧ Ext W wx) (fun _ i _ => n - (intOf i).toNat)
            case atStart => exact ⟨0, by omega, rfl, by simpa [blobsB] using hO, hXr2⟩
            case round =>
              clear hO
              obtain ⟨k, hkn, rfl, hO, hwx⟩ := hrel
              by_cases hlt : k < n
              · obtain ⟨b, o, A1, c1, rfl, x0, h1c, h1S⟩ := n_get hS k hlt
                have hxm := hr.m _ (List.getElem_mem (l := r.sealed) (n := k) (by omega))
                have htk := blobsB_one r.sealed k (by omega)
                have htl := blobsB_len r.sealed hr.m k
                generalize hx : r.sealed[k]'(by omega) = x at *
                have x0 := (hE.trans hwx).cellk x0
                have hn4 := hr.n
                have hbl := blobO hO (Nat.le_trans hE.le hwx.le) (by rw [List.length_append]; omega) A1 c1 x (h1S.ext (hE.trans hwx)) h1c (by omega)
                rw [List.append_assoc, ← htk] at hbl
                obtain ⟨nx, hnx⟩ : ∃ nx, x.length = nx := ⟨_, rfl⟩
                rw [hnx] at x0 hbl
                clear h1S hx htk htl hxm hnx h1c hO
                go_wp2_with (go_at_call 32; (with_reducible refine hbl.mono ?_); rintro e w9 ⟨v9, rfl, hO9, hE9⟩)
                go_roundw
                case rel => first | exact ⟨k + 1, by omega, by go_num, hO9, hwx.trans hE9⟩ | ((repeat apply Exists.intro); exact ⟨⟨k + 1, by omega, by go_num, hO9, hwx.trans hE9⟩, rfl⟩)
                case measure => simp [intOf]; omega
              · obtain rfl : k = n := by omega
                rw [← hln, List.take_length] at hO
                go_wp2_with fail
                rw [← HP.out]
                refine ⟨fun h => absurd hz h, fun _ => ⟨_, rfl, ?_⟩, hE.trans hwx⟩
                have e : L3 ++ blobsB r.sealed = recB r := by
                  unfold recB
                  rw [← HL3.out, ← HL2.out, ← HL1.out, ← HL0.out, hln]
                  simp [numsB]
                rw [← e]
                exact hO
  · have h0' : (v != 0) = true := by simpa using h0
    go_enter Tryd.func12, Tryd.ntmps12
    go_upto_region 1 with fail
    rw [← hW]
    clear hW
    go_wp2_with (go_at_call 14; (with_reducible refine hck.mono ?_); rintro e w1 ⟨rfl, hE1⟩)
    rw [← HP.out]
    exact ⟨fun _ => by rw [HV.out]; rfl, fun h => absurd (HV.out.symm.trans h) h0, hE.trans hE1⟩
end Go.Proofs.YtkmjnbfhfjafpaaDoor
