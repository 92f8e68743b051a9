/- Grants and tokens laid behind bytes, by the document's answer. (and what follows) -/
import Derived.Test.YtgfhbachgniipaaDoorMz
import Derived.Test.YtgfhbachgniipaaDoorM7
import Derived.Test.YtgfhbachgniipaaDoorM6
set_option linter.unusedVariables false
set_option linter.unusedSimpArgs false
namespace Go.Proofs.YtgfhbachgniipaaDoor
open Go.RowKit
section
variable {N : Nat} {w : World} {v : Value} {L : List UInt8} (h : Buf N w v L) (hN : N ≤ 1000000000) (B : Nat) (hB : B ≤ w.heap.size)
include h hN hB
end
section
variable {N : Nat} {w : World} {v : Value} {L : List UInt8} {g : Nat} (h : Buf N w v L) (B : Nat) (hB : B ≤ w.heap.size) (hN : N ≤ 900000000)
include h hB hN
end
end Go.Proofs.YtgfhbachgniipaaDoor

namespace Go.Proofs.YtgfhbachgniipaaDoor
open Go.RowKit
open Go.Shelf
def kindI (k : Nat) : List Int := (kindF k).map Int.ofNat
theorem kindI_eq : ∀ k : Fin 9, kindI k.1 = ([[], [0, 1, 2, 3], [0, 4, 5], [4, 5], [1], [6], [7], [4, 5], [4]] : List (List Int)).getD k.1 [] := by decide +kernel
theorem kindI_has (k : Nat) (f : Nat) : hasF k f = (kindI k).contains (f : Int) := by
  unfold hasF kindI
  induction kindF k with
  | nil => rfl
  | cons x l ih =>
    rw [List.map_cons, List.contains_cons, List.contains_cons, ih]
    congr 1
    rw [Bool.eq_iff_iff, beq_iff_eq, beq_iff_eq]
    exact ⟨fun h => by rw [h]; rfl, fun h => Int.ofNat_inj.1 h⟩
theorem kindI_len : ∀ k : Fin 9, (kindI k.1).length ≤ 4 := by decide +kernel
set_option maxHeartbeats 1000000 in
set_option maxRecDepth 100000 in
theorem has_world (w : World) : ∃ q, (((((((((w.alloc (.cells #[] 3)).alloc (.cells #[.int .i64 0, .int .i64 1, .int .i64 2, .int .i64 3] 3)).alloc (.cells #[.int .i64 0, .int .i64 4, .int .i64 5] 3)).alloc (.cells #[.int .i64 4, .int .i64 5] 3)).alloc (.cells #[.int .i64 1] 3)).alloc (.cells #[.int .i64 6] 3)).alloc (.cells #[.int .i64 7] 3)).alloc (.cells #[.int .i64 4, .int .i64 5] 3)).alloc (.cells #[.int .i64 4] 3)).alloc (.cells #[.slice (some ⟨w.heap.size, 0, none⟩) 0 0, .slice (some ⟨w.heap.size + 1, 0, none⟩) 4 4, .slice (some ⟨w.heap.size + 1 + 1, 0, none⟩) 3 3, .slice (some ⟨w.heap.size + 1 + 1 + 1, 0, none⟩) 2 2, .slice (some ⟨w.heap.size + 1 + 1 + 1 + 1, 0, none⟩) 1 1, .slice (some ⟨w.heap.size + 1 + 1 + 1 + 1 + 1, 0, none⟩) 1 1, .slice (some ⟨w.heap.size + 1 + 1 + 1 + 1 + 1 + 1, 0, none⟩) 1 1, .slice (some ⟨w.heap.size + 1 + 1 + 1 + 1 + 1 + 1 + 1, 0, none⟩) 2 2, .slice (some ⟨w.heap.size + 1 + 1 + 1 + 1 + 1 + 1 + 1 + 1, 0, none⟩) 1 1] 93) = q ∧ Ext w q ∧ ∀ k, k ≤ 8 → ∃ g, q.cell? ⟨w.heap.size + 1 + 1 + 1 + 1 + 1 + 1 + 1 + 1 + 1, k, none⟩ = some (.slice (some ⟨g, 0, none⟩) (kindI k).length (kindI k).length) ∧ (Rd.int .i64).Sl q (some ⟨g, 0, none⟩) (kindI k).length (kindI k) := by
  obtain ⟨q0, h0⟩ : ∃ q, w.alloc (.cells #[] 3) = q := ⟨_, rfl⟩
  have s0 : q0.heap.size = w.heap.size + 1 := by rw [← h0]; simp
  have B0 : Blk q0 (w.heap.size) 3 #[] := by have := Blk.new w 3 #[]; rw [h0] at this; exact this
  have E0 : Ext w q0 := by rw [← h0]; exact (Ext.refl _).alloc _
  obtain ⟨q1, h1⟩ : ∃ q, q0.alloc (.cells #[.int .i64 0, .int .i64 1, .int .i64 2, .int .i64 3] 3) = q := ⟨_, rfl⟩
  have s1 : q1.heap.size = w.heap.size + 1 + 1 := by rw [← h1]; simp [s0]
  have B1 : Blk q1 (w.heap.size + 1) 3 #[.int .i64 0, .int .i64 1, .int .i64 2, .int .i64 3] := by have := Blk.new q0 3 #[.int .i64 0, .int .i64 1, .int .i64 2, .int .i64 3]; rw [h1] at this; rwa [s0] at this
  have E1 : Ext q0 q1 := by rw [← h1]; exact (Ext.refl _).alloc _
  obtain ⟨q2, h2⟩ : ∃ q, q1.alloc (.cells #[.int .i64 0, .int .i64 4, .int .i64 5] 3) = q := ⟨_, rfl⟩
  have s2 : q2.heap.size = w.heap.size + 1 + 1 + 1 := by rw [← h2]; simp [s1]
  have B2 : Blk q2 (w.heap.size + 1 + 1) 3 #[.int .i64 0, .int .i64 4, .int .i64 5] := by have := Blk.new q1 3 #[.int .i64 0, .int .i64 4, .int .i64 5]; rw [h2] at this; rwa [s1] at this
  have E2 : Ext q1 q2 := by rw [← h2]; exact (Ext.refl _).alloc _
  obtain ⟨q3, h3⟩ : ∃ q, q2.alloc (.cells #[.int .i64 4, .int .i64 5] 3) = q := ⟨_, rfl⟩
  have s3 : q3.heap.size = w.heap.size + 1 + 1 + 1 + 1 := by rw [← h3]; simp [s2]
  have B3 : Blk q3 (w.heap.size + 1 + 1 + 1) 3 #[.int .i64 4, .int .i64 5] := by have := Blk.new q2 3 #[.int .i64 4, .int .i64 5]; rw [h3] at this; rwa [s2] at this
  have E3 : Ext q2 q3 := by rw [← h3]; exact (Ext.refl _).alloc _
  obtain ⟨q4, h4⟩ : ∃ q, q3.alloc (.cells #[.int .i64 1] 3) = q := ⟨_, rfl⟩
  have s4 : q4.heap.size = w.heap.size + 1 + 1 + 1 + 1 + 1 := by rw [← h4]; simp [s3]
  have B4 : Blk q4 (w.heap.size + 1 + 1 + 1 + 1) 3 #[.int .i64 1] := by have := Blk.new q3 3 #[.int .i64 1]; rw [h4] at this; rwa [s3] at this
  have E4 : Ext q3 q4 := by rw [← h4]; exact (Ext.refl _).alloc _
  obtain ⟨q5, h5⟩ : ∃ q, q4.alloc (.cells #[.int .i64 6] 3) = q := ⟨_, rfl⟩
  have s5 : q5.heap.size = w.heap.size + 1 + 1 + 1 + 1 + 1 + 1 := by rw [← h5]; simp [s4]
  have B5 : Blk q5 (w.heap.size + 1 + 1 + 1 + 1 + 1) 3 #[.int .i64 6] := by have := Blk.new q4 3 #[.int .i64 6]; rw [h5] at this; rwa [s4] at this
  have E5 : Ext q4 q5 := by rw [← h5]; exact (Ext.refl _).alloc _
  obtain ⟨q6, h6⟩ : ∃ q, q5.alloc (.cells #[.int .i64 7] 3) = q := ⟨_, rfl⟩
  have s6 : q6.heap.size = w.heap.size + 1 + 1 + 1 + 1 + 1 + 1 + 1 := by rw [← h6]; simp [s5]
  have B6 : Blk q6 (w.heap.size + 1 + 1 + 1 + 1 + 1 + 1) 3 #[.int .i64 7] := by have := Blk.new q5 3 #[.int .i64 7]; rw [h6] at this; rwa [s5] at this
  have E6 : Ext q5 q6 := by rw [← h6]; exact (Ext.refl _).alloc _
  obtain ⟨q7, h7⟩ : ∃ q, q6.alloc (.cells #[.int .i64 4, .int .i64 5] 3) = q := ⟨_, rfl⟩
  have s7 : q7.heap.size = w.heap.size + 1 + 1 + 1 + 1 + 1 + 1 + 1 + 1 := by rw [← h7]; simp [s6]
  have B7 : Blk q7 (w.heap.size + 1 + 1 + 1 + 1 + 1 + 1 + 1) 3 #[.int .i64 4, .int .i64 5] := by have := Blk.new q6 3 #[.int .i64 4, .int .i64 5]; rw [h7] at this; rwa [s6] at this
  have E7 : Ext q6 q7 := by rw [← h7]; exact (Ext.refl _).alloc _
  obtain ⟨q8, h8⟩ : ∃ q, q7.alloc (.cells #[.int .i64 4] 3) = q := ⟨_, rfl⟩
  have s8 : q8.heap.size = w.heap.size + 1 + 1 + 1 + 1 + 1 + 1 + 1 + 1 + 1 := by rw [← h8]; simp [s7]
  have B8 : Blk q8 (w.heap.size + 1 + 1 + 1 + 1 + 1 + 1 + 1 + 1) 3 #[.int .i64 4] := by have := Blk.new q7 3 #[.int .i64 4]; rw [h8] at this; rwa [s7] at this
  have E8 : Ext q7 q8 := by rw [← h8]; exact (Ext.refl _).alloc _
  obtain ⟨q9, h9⟩ : ∃ q, q8.alloc (.cells #[.slice (some ⟨w.heap.size, 0, none⟩) 0 0, .slice (some ⟨w.heap.size + 1, 0, none⟩) 4 4, .slice (some ⟨w.heap.size + 1 + 1, 0, none⟩) 3 3, .slice (some ⟨w.heap.size + 1 + 1 + 1, 0, none⟩) 2 2, .slice (some ⟨w.heap.size + 1 + 1 + 1 + 1, 0, none⟩) 1 1, .slice (some ⟨w.heap.size + 1 + 1 + 1 + 1 + 1, 0, none⟩) 1 1, .slice (some ⟨w.heap.size + 1 + 1 + 1 + 1 + 1 + 1, 0, none⟩) 1 1, .slice (some ⟨w.heap.size + 1 + 1 + 1 + 1 + 1 + 1 + 1, 0, none⟩) 2 2, .slice (some ⟨w.heap.size + 1 + 1 + 1 + 1 + 1 + 1 + 1 + 1, 0, none⟩) 1 1] 93) = q := ⟨_, rfl⟩
  have B9 : Blk q9 (w.heap.size + 1 + 1 + 1 + 1 + 1 + 1 + 1 + 1 + 1) 93 #[.slice (some ⟨w.heap.size, 0, none⟩) 0 0, .slice (some ⟨w.heap.size + 1, 0, none⟩) 4 4, .slice (some ⟨w.heap.size + 1 + 1, 0, none⟩) 3 3, .slice (some ⟨w.heap.size + 1 + 1 + 1, 0, none⟩) 2 2, .slice (some ⟨w.heap.size + 1 + 1 + 1 + 1, 0, none⟩) 1 1, .slice (some ⟨w.heap.size + 1 + 1 + 1 + 1 + 1, 0, none⟩) 1 1, .slice (some ⟨w.heap.size + 1 + 1 + 1 + 1 + 1 + 1, 0, none⟩) 1 1, .slice (some ⟨w.heap.size + 1 + 1 + 1 + 1 + 1 + 1 + 1, 0, none⟩) 2 2, .slice (some ⟨w.heap.size + 1 + 1 + 1 + 1 + 1 + 1 + 1 + 1, 0, none⟩) 1 1] := by have := Blk.new q8 93 #[.slice (some ⟨w.heap.size, 0, none⟩) 0 0, .slice (some ⟨w.heap.size + 1, 0, none⟩) 4 4, .slice (some ⟨w.heap.size + 1 + 1, 0, none⟩) 3 3, .slice (some ⟨w.heap.size + 1 + 1 + 1, 0, none⟩) 2 2, .slice (some ⟨w.heap.size + 1 + 1 + 1 + 1, 0, none⟩) 1 1, .slice (some ⟨w.heap.size + 1 + 1 + 1 + 1 + 1, 0, none⟩) 1 1, .slice (some ⟨w.heap.size + 1 + 1 + 1 + 1 + 1 + 1, 0, none⟩) 1 1, .slice (some ⟨w.heap.size + 1 + 1 + 1 + 1 + 1 + 1 + 1, 0, none⟩) 2 2, .slice (some ⟨w.heap.size + 1 + 1 + 1 + 1 + 1 + 1 + 1 + 1, 0, none⟩) 1 1]; rw [h9] at this; rwa [s8] at this
  have E9 : Ext q8 q9 := by rw [← h9]; exact (Ext.refl _).alloc _
  refine ⟨q9, ?_, E0.trans ((((((((E1.trans E2).trans E3).trans E4).trans E5).trans E6).trans E7).trans E8).trans E9), fun k hk => ?_⟩
  · rw [h0, h1, h2, h3, h4, h5, h6, h7, h8, h9]
  · have e := kindI_eq ⟨k, by omega⟩
    simp only at e
    rw [e]
    obtain rfl | rfl | rfl | rfl | rfl | rfl | rfl | rfl | rfl : k = 0 ∨ k = 1 ∨ k = 2 ∨ k = 3 ∨ k = 4 ∨ k = 5 ∨ k = 6 ∨ k = 7 ∨ k = 8 := by omega
    · exact ⟨_, B9.cell 0 rfl, ints_sl [] (B0.ext ((((((((E1.trans E2).trans E3).trans E4).trans E5).trans E6).trans E7).trans E8).trans E9))⟩
    · exact ⟨_, B9.cell 1 rfl, ints_sl [0, 1, 2, 3] (B1.ext (((((((E2.trans E3).trans E4).trans E5).trans E6).trans E7).trans E8).trans E9))⟩
    · exact ⟨_, B9.cell 2 rfl, ints_sl [0, 4, 5] (B2.ext ((((((E3.trans E4).trans E5).trans E6).trans E7).trans E8).trans E9))⟩
    · exact ⟨_, B9.cell 3 rfl, ints_sl [4, 5] (B3.ext (((((E4.trans E5).trans E6).trans E7).trans E8).trans E9))⟩
    · exact ⟨_, B9.cell 4 rfl, ints_sl [1] (B4.ext ((((E5.trans E6).trans E7).trans E8).trans E9))⟩
    · exact ⟨_, B9.cell 5 rfl, ints_sl [6] (B5.ext (((E6.trans E7).trans E8).trans E9))⟩
    · exact ⟨_, B9.cell 6 rfl, ints_sl [7] (B6.ext ((E7.trans E8).trans E9))⟩
    · exact ⟨_, B9.cell 7 rfl, ints_sl [4, 5] (B7.ext (E8.trans E9))⟩
    · exact ⟨_, B9.cell 8 rfl, ints_sl [4] (B8.ext E9)⟩
set_option maxHeartbeats 9000000 in
set_option maxRecDepth 100000 in
theorem rhas_any (w : World) (k f : Nat) (hk : k ≤ 8) (hf : f < 8) : Calls Tryd.prog 14 #[.int .i64 k, .int .i64 f] w fun e w' => e = .returned (.bool (hasF k f)) ∧ Ext w w' := by
  rw [kindI_has]
  obtain ⟨q, hq, hE, hfa⟩ := has_world w
  obtain ⟨g, c0, hS⟩ := hfa k hk
  have hlen := kindI_len ⟨k, by omega⟩
  simp only at hlen
  obtain ⟨v, hv⟩ : ∃ v, (kindI k).contains (f : Int) = v := ⟨_, rfl⟩
  rw [hv]
  generalize kindI k = l at *
  obtain ⟨n, hn⟩ : ∃ n, l.length = n := ⟨_, rfl⟩
  rw [hn] at c0 hS hlen
  have HV := Lib.hid hv
  have HN := Lib.hid hn
  clear hfa hv hn
  go_enter Tryd.func14, Tryd.ntmps14
  go_upto_region 2 with fail
  subst hq
  go_wp2_with fail
  go_loopw [6] (fun i wr => ∃ j : Nat, j ≤ n ∧ i = .int .i64 j ∧ (∀ x ∈ l.take j, x ≠ (f : Int)) ∧ Ext w wr ∧ wr.cell? ⟨w.heap.size + 1 + 1 + 1 + 1 + 1 + 1 + 1 + 1 + 1, k, none⟩ = some (.slice (some ⟨g, 0, none⟩) n n) ∧ (Rd.int .i64).Sl wr (some ⟨g, 0, none⟩) n l) (fun i _ => n - (intOf i).toNat)
  case atStart => exact ⟨0, by omega, rfl, (fun x hx => by simp at hx), hE, c0, hS⟩
  case round =>
    clear hE c0 hS
    obtain ⟨j, hjn, rfl, hall, hE, c0, hS⟩ := hrel
    by_cases hlt : j < n
    · obtain ⟨b, o, cs, e, hK, hcell⟩ := hS.get j hlt
      cases e
      have hl := HN.out
      have ht : l.take (j + 1) = l.take j ++ [l[j]'(by omega)] := List.take_succ_eq_append_getElem (by omega)
      have hmem : l[j]'(by omega) ∈ l := List.getElem_mem _
      generalize l[j]'(by omega) = x at *
      have x0 : wr.cell? ⟨g, 0 + j, none⟩ = some (.int .i64 x) := by have := hcell 0 _ (by rw [show cs = [_] from hK]; rfl); simpa [Rd.int] using this
      rw [Nat.zero_add] at x0
      have HT := Lib.hid ht
      have HA := Lib.hid hall
      by_cases hx : x = (f : Int)
      · have hv2 : v = true := by rw [← HV.out, List.contains_iff_mem, ← hx]; exact hmem
        subst hv2
        subst hx
        clear hS hK hcell ht hl hall hmem
        go_wp2_with fail
        go_ret
        exact ⟨rfl, hE⟩
      · have hx2 : (x == (f : Int)) = false := by simpa using hx
        have HS := Lib.hid hS
        clear hS hK hcell ht hl hall hmem
        go_wp2_with fail
        go_roundw
        case rel =>
          refine ⟨j + 1, by omega, by go_num, fun y hy => ?_, hE, c0, HS.out⟩
          rw [HT.out, List.mem_append, List.mem_singleton] at hy
          rcases hy with hy | rfl
          · exact HA.out y hy
          · exact hx
        case measure => simp [intOf]; omega
    · obtain rfl : j = n := by omega
      have hv2 : v = false := by
        rw [← HV.out, Bool.eq_false_iff]
        intro h
        rw [List.contains_iff_mem] at h
        rw [← HN.out, List.take_length] at hall
        exact hall _ h rfl
      subst hv2
      clear hS hall
      go_wp2_with fail
      go_ret
      exact ⟨rfl, hE⟩
end Go.Proofs.YtgfhbachgniipaaDoor

namespace Go.Proofs.YtgfhbachgniipaaDoor
open Go.RowKit
open Go.Shelf
def linksG (t : Tok) : Int := if 6 < t.gs.length then 3 else if longT t = true then 5 else 0
end Go.Proofs.YtgfhbachgniipaaDoor

namespace Go.Proofs.YtgfhbachgniipaaDoor
open Go.RowKit
open Go.Shelf
end Go.Proofs.YtgfhbachgniipaaDoor

namespace Go.Proofs.YtgfhbachgniipaaDoor
open Go.RowKit
open Go.Shelf
end Go.Proofs.YtgfhbachgniipaaDoor

namespace Go.Proofs.YtgfhbachgniipaaDoor
open Go.RowKit
end Go.Proofs.YtgfhbachgniipaaDoor
