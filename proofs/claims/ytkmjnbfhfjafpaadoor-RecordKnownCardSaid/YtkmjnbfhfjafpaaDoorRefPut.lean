/- Records: the bytes of one, by the document's answer. -/
import Derived.Test.YtkmjnbfhfjafpaaDoorRecPut
import Derived.Test.YtkmjnbfhfjafpaaDoorRef07
namespace Go.Proofs.YtkmjnbfhfjafpaaDoor
set_option linter.unusedVariables false
set_option linter.unusedSimpArgs false
open Go.RowKit
/-- Bytes of the call's own, at most N of them. -/
def OwnN (B N : Nat) (w : World) (v : Value) (L : List UInt8) : Prop := OwnB B w v L ∧ L.length ≤ N ∧ B ≤ w.heap.size
theorem OwnN.nil (B : Nat) (w : World) (h : B ≤ w.heap.size) : OwnN B 0 w (.slice none 0 0) [] := ⟨OwnB.nil B w, Nat.le_refl _, h⟩
theorem OwnN.ext {B N : Nat} {w w' : World} {v : Value} {L : List UInt8} (h : OwnN B N w v L) (hE : Ext w w') : OwnN B N w' v L := ⟨h.1.ext hE, h.2.1, Nat.le_trans h.2.2 hE.le⟩
theorem OwnN.re {B N : Nat} {w : World} {v : Value} {L L' : List UInt8} (h : OwnN B N w v L) (e : L = L') : OwnN B N w v L' := e ▸ h
theorem rintN {B N : Nat} {w : World} {v : Value} {L : List UInt8} (h : OwnN B N w v L) (hN : N ≤ 1073741824) (x : Int) :
    Calls Tryd.prog 34 #[v, .int .i64 x] w fun e w' => ∃ u, e = .returned u ∧ OwnN B (N + 8) w' u (L ++ num8 x) ∧ Ext w w' := by
  obtain ⟨hO, hL, hB⟩ := h
  obtain ⟨A, c, rfl, h1, h2⟩ := hO.sl
  refine (refInt_any w A c L h2 h1 (by omega) x).mono ?_
  rintro e w' ⟨u, rfl, hu, hE⟩
  refine ⟨u, rfl, ⟨?_, by rw [List.length_append, num8_len]; omega, Nat.le_trans hB hE.le⟩, hE⟩
  unfold OwnB
  rw [List.length_append, num8_len]
  exact own_base hu hB
theorem rtextN {B N : Nat} {w : World} {v : Value} {L : List UInt8} (h : OwnN B N w v L) (hN : N ≤ 1073741824) (s : ByteArray) (hs : s.size ≤ 1048576) :
    Calls Tryd.prog 33 #[v, .string s] w fun e w' => ∃ u, e = .returned u ∧ OwnN B (N + 1048584) w' u (L ++ txtB s) ∧ Ext w w' := by
  obtain ⟨hO, hL, hB⟩ := h
  obtain ⟨A, c, rfl, h1, h2⟩ := hO.sl
  refine (refText_any w A c L h2 h1 (by omega) s (by omega)).mono ?_
  rintro e w' ⟨u, rfl, hu, hE⟩
  refine ⟨u, rfl, ⟨?_, by rw [List.length_append, txtB_len]; omega, Nat.le_trans hB hE.le⟩, hE⟩
  unfold OwnB txtB
  have e1 : s.data.toList.length = s.size := by rw [Array.length_toList]; rfl
  rw [List.length_append, List.length_append, num8_len, e1, ← Nat.add_assoc, ← List.append_assoc]
  exact own_base hu hB
theorem rblobO {B : Nat} {w : World} {v : Value} {L : List UInt8} (h : OwnB B w v L) (hB : B ≤ w.heap.size) (hL : L.length ≤ 1073741824) (A' : Option Addr) (c' : Nat) (p : List UInt8) (hS : Rd.u8.Sl w A' p.length p) (hc : p.length ≤ c') (hp : p.length ≤ 4294967296) :
    Calls Tryd.prog 35 #[v, .slice A' p.length c'] w fun e w' => ∃ u, e = .returned u ∧ OwnB B w' u (L ++ (num8 p.length ++ p)) ∧ Ext w w' := by
  obtain ⟨A, c, rfl, h1, h2⟩ := h.sl
  refine (refBlob_any w A c L h2 h1 hL A' c' p hS hc hp).mono ?_
  rintro e w' ⟨u, rfl, hu, hE⟩
  refine ⟨u, rfl, ?_, hE⟩
  unfold OwnB
  rw [List.length_append, List.length_append, num8_len, ← Nat.add_assoc, ← List.append_assoc]
  exact own_base hu hB
set_option maxHeartbeats 9000000 in
set_option maxRecDepth 100000 in
theorem rput_any (w : World) (r : Rec) (hr : RecOk r) (A : Option Addr) (c : Nat) (hS : rdB.Sl w A r.sealed.length r.sealed) (hc : r.sealed.length ≤ c) :
    Calls Tryd.prog 13 #[.agg #[.string r.ten, .int .i64 r.clock, .int .i64 r.kind, .int .i64 r.code, .int .i64 r.id, .string r.st, .string r.su, .int .i64 r.slot, .int .i64 r.uses, .int .i64 r.num, .slice A r.sealed.length c]] w (PutP w r) := by
  obtain ⟨W, hW, hE, bx⟩ := box1 w #[.string r.ten, .int .i64 r.clock, .int .i64 r.kind, .int .i64 r.code, .int .i64 r.id, .string r.st, .string r.su, .int .i64 r.slot, .int .i64 r.uses, .int .i64 r.num, .slice A r.sealed.length c] 25
  have x0 : W.cell? ⟨w.heap.size, 0, none⟩ = some (.string r.ten) := bx 0 _ rfl
  have r0 := fun (w' : World) (h : Ext W w') => h.cellk x0
  have x1 : W.cell? ⟨w.heap.size, 1, none⟩ = some (.int .i64 r.clock) := bx 1 _ rfl
  have r1 := fun (w' : World) (h : Ext W w') => h.cellk x1
  have x2 : W.cell? ⟨w.heap.size, 2, none⟩ = some (.int .i64 r.kind) := bx 2 _ rfl
  have r2 := fun (w' : World) (h : Ext W w') => h.cellk x2
  have x3 : W.cell? ⟨w.heap.size, 3, none⟩ = some (.int .i64 r.code) := bx 3 _ rfl
  have r3 := fun (w' : World) (h : Ext W w') => h.cellk x3
  have x4 : W.cell? ⟨w.heap.size, 4, none⟩ = some (.int .i64 r.id) := bx 4 _ rfl
  have r4 := fun (w' : World) (h : Ext W w') => h.cellk x4
  have x5 : W.cell? ⟨w.heap.size, 5, none⟩ = some (.string r.st) := bx 5 _ rfl
  have r5 := fun (w' : World) (h : Ext W w') => h.cellk x5
  have x6 : W.cell? ⟨w.heap.size, 6, none⟩ = some (.string r.su) := bx 6 _ rfl
  have r6 := fun (w' : World) (h : Ext W w') => h.cellk x6
  have x7 : W.cell? ⟨w.heap.size, 7, none⟩ = some (.int .i64 r.slot) := bx 7 _ rfl
  have r7 := fun (w' : World) (h : Ext W w') => h.cellk x7
  have x8 : W.cell? ⟨w.heap.size, 8, none⟩ = some (.int .i64 r.uses) := bx 8 _ rfl
  have r8 := fun (w' : World) (h : Ext W w') => h.cellk x8
  have x9 : W.cell? ⟨w.heap.size, 9, none⟩ = some (.int .i64 r.num) := bx 9 _ rfl
  have r9 := fun (w' : World) (h : Ext W w') => h.cellk x9
  have x10 : W.cell? ⟨w.heap.size, 10, none⟩ = some (.slice A r.sealed.length c) := bx 10 _ rfl
  have r10 := fun (w' : World) (h : Ext W w') => h.cellk x10
  clear bx
  have hck := rcheck_any W r A c (hS.ext hE) hc (by have := hr.n; omega) (fun x hx => by have := hr.m x hx; omega)
  obtain ⟨P, hP⟩ : ∃ P, PutP w r = P := ⟨_, rfl⟩
  obtain ⟨v, hv⟩ : ∃ v, checkG r = v := ⟨_, rfl⟩
  rw [hv] at hck
  rw [hP]
  have hY : Ext W W := Ext.refl W
  obtain ⟨n, hln⟩ : ∃ n, r.sealed.length = n := ⟨_, rfl⟩
  rw [hln] at hS hc hW x10 r10 hck ⊢
  have HP := Lib.hid hP
  have HV := Lib.hid hv
  clear hP hv
  by_cases h0 : v = 0
  · have h0' : (v != 0) = false := by simpa using h0
    have hz : checkG r = 0 := HV.out.trans h0
    subst h0
    have htn := hr.ten
    have hst := hr.st
    have hsu := hr.su
    go_enter Tryd.func13, Tryd.ntmps13
    go_upto_region 1 with fail
    rw [← hW]
    clear hW
    go_upto_region 15 with (first | (go_at_call 15; (with_reducible refine hck.mono ?_); rintro e w1 ⟨rfl, hE1⟩; have hX9 : Ext W w1 := (by (repeat (first | assumption | exact Ext.refl _ | refine Ext.drew ?_ | refine Ext.alloc ?_ _ | refine Ext.drewN ?_ _ | refine Ext.trans ?_ (by assumption)))); have hO9 := OwnN.nil w.heap.size w1 (Nat.le_trans hE.le hX9.le)) | (go_at_call 34; (with_reducible refine (rintN (by assumption) (by decide) _).mono ?_); rintro e w9 ⟨v9, rfl, hO9, hE9⟩; have hX9 : Ext W w9 := Ext.trans (by assumption) hE9; clear hE9) | (go_at_call 33; (with_reducible refine (rtextN (by assumption) (by decide) _ (by assumption)).mono ?_); rintro e w9 ⟨v9, rfl, hO9, hE9⟩; have hX9 : Ext W w9 := Ext.trans (by assumption) hE9; clear hE9))
    obtain ⟨L3, hL3⟩ : ∃ L, txtB r.ten ++ numsB [r.clock, r.kind, r.code, r.id] ++ txtB r.st ++ txtB r.su ++ numsB [r.slot, r.uses, r.num, (n : Int)] = L := ⟨_, rfl⟩
    have hO := hO9.re (L' := L3) (by rw [← hL3]; simp [numsB])
    have HL3 := Lib.hid hL3
    clear hL3 hO9 hck
    have hl3 := hO.2.1
    have hO := hO.1
    have hn4 := hr.n
    go_wp2_with fail
    go_loopw [5, 6] (fun s i wx => ∃ k : Nat, k ≤ n ∧ i = .int .i64 k ∧ OwnB w.heap.size wx s (L3 ++ blobsB (r.sealed.take k)) ∧ Ext W wx) (fun _ i _ => n - (intOf i).toNat)
    case atStart => exact ⟨0, by omega, rfl, by simpa [blobsB] using hO, hX9⟩
    case round =>
      clear hO
      obtain ⟨k, hkn, rfl, hO, hwx⟩ := hrel
      by_cases hlt : k < n
      · obtain ⟨b, o, A1, c1, rfl, x0, h1c, h1S⟩ := n_get hS k hlt
        have hxm := hr.m _ (List.getElem_mem (l := r.sealed) (n := k) (by omega))
        have htk := blobsB_one r.sealed k (by omega)
        have htl := blobsB_len r.sealed hr.m k
        generalize hx : r.sealed[k]'(by omega) = x at *
        have x0 := (hE.trans hwx).cellk x0
        have hbl := rblobO hO (Nat.le_trans hE.le hwx.le) (by rw [List.length_append]; omega) A1 c1 x (h1S.ext (hE.trans hwx)) h1c (by omega)
        rw [List.append_assoc, ← htk] at hbl
        obtain ⟨nx, hnx⟩ : ∃ nx, x.length = nx := ⟨_, rfl⟩
        rw [hnx] at x0 hbl
        clear h1S hx htk htl hxm hnx h1c hO
        go_wp2_with (go_at_call 35; (with_reducible refine hbl.mono ?_); rintro e w9 ⟨v9, rfl, hO9, hE9⟩)
        go_roundw
        case rel => first | exact ⟨k + 1, by omega, by go_num, hO9, hwx.trans hE9⟩ | ((repeat apply Exists.intro); exact ⟨⟨k + 1, by omega, by go_num, hO9, hwx.trans hE9⟩, rfl⟩)
        case measure => simp [intOf]; omega
      · obtain rfl : k = n := by omega
        rw [← hln, List.take_length] at hO
        go_wp2_with fail
        rw [← HP.out]
        refine ⟨fun h => absurd hz h, fun _ => ⟨_, rfl, ?_⟩, hE.trans hwx⟩
        have e : L3 ++ blobsB r.sealed = recB r := by
          unfold recB
          rw [← HL3.out, hln]
        rw [← e]
        exact hO
  · have h0' : (v != 0) = true := by simpa using h0
    go_enter Tryd.func13, Tryd.ntmps13
    go_upto_region 1 with fail
    rw [← hW]
    clear hW
    go_wp2_with (go_at_call 15; (with_reducible refine hck.mono ?_); rintro e w1 ⟨rfl, hE1⟩)
    rw [← HP.out]
    exact ⟨fun _ => by rw [HV.out]; rfl, fun h => absurd (HV.out.symm.trans h) h0, hE.trans hE1⟩
end Go.Proofs.YtkmjnbfhfjafpaaDoor
