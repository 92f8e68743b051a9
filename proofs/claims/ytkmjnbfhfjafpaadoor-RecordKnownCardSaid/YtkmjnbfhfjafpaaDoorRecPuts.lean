/- The law RecordPuts, walked. -/
import Derived.Test.YtkmjnbfhfjafpaaDoorRecWorks
import Derived.Test.YtkmjnbfhfjafpaaDoorRecKit
namespace Go.Proofs.YtkmjnbfhfjafpaaDoor
set_option linter.unusedVariables false
set_option linter.unusedSimpArgs false
open Go.RowKit
theorem only_sl {α : Type} {d : Rd α} {w1 w2 : World} {lo hi : Nat} {A : Option Addr} {n : Nat} {l : List α} (h : d.Sl (only w1 lo hi) A n l) (hE : Ext w1 w2) (hh : hi ≤ w1.heap.size) : d.Sl (only w2 lo hi) A n l := by
  rw [only_ext hE hh]; exact h
theorem only_slx {α : Type} {d : Rd α} {w1 w2 : World} {l h lo hi : Nat} {A : Option Addr} {n : Nat} {xs : List α} (hs : d.Sl (only w1 l h) A n xs) (hX : Exc lo hi w1 w2) (hh : h ≤ w1.heap.size) (hd : h ≤ lo ∨ hi ≤ l) : d.Sl (only w2 l h) A n xs := by
  rw [hX.only hh hd]; exact hs
theorem recB_len {r : Rec} (h : RecOk r) : (recB r).length ≤ 4294967296 := by
  have h1 := blobsB_len r.sealed h.m r.sealed.length
  rw [List.take_length] at h1
  have h2 := Nat.mul_le_mul_right 1048584 h.n
  have h3 := h.ten
  have h4 := h.st
  have h5 := h.su
  unfold recB
  simp only [List.length_append, txtB_len, numsB_len, List.length_cons, List.length_nil]
  omega
theorem putB_len {r : Rec} (h : RecOk r) : (putB r).length ≤ 4294967296 := by
  unfold putB
  split
  · exact recB_len h
  · simp
/-- What came in: a record, as the statements read it. -/
structure RecIn (r : Rec) : Prop where
  n : r.sealed.length ≤ 140737488351232
  m : ∀ x ∈ r.sealed, x.length ≤ 140737488351232
  ten : r.ten.size ≤ 140737488351232
  st : r.st.size ≤ 140737488351232
  su : r.su.size ≤ 140737488351232
  ints : RecInts r
set_option maxHeartbeats 9000000 in
set_option maxRecDepth 100000 in
theorem puts_walk (w : World) (r : Rec) (A : Option Addr) (c : Nat) (hS : rdB.Sl w A r.sealed.length r.sealed) (hc : r.sealed.length ≤ c) (hr : RecIn r) :
    Calls Tryd.prog 3 #[.agg #[.string r.ten, .int .i64 r.clock, .int .i64 r.kind, .int .i64 r.code, .int .i64 r.id, .string r.st, .string r.su, .int .i64 r.slot, .int .i64 r.uses, .int .i64 r.num, .slice A r.sealed.length c]] w fun e w' => e = .returned (.bool true) ∧ Ext w w' := by
  obtain ⟨W, hW, hE, bx⟩ := box1 w #[.string r.ten, .int .i64 r.clock, .int .i64 r.kind, .int .i64 r.code, .int .i64 r.id, .string r.st, .string r.su, .int .i64 r.slot, .int .i64 r.uses, .int .i64 r.num, .slice A r.sealed.length c] 25
  have x0 : W.cell? ⟨w.heap.size, 0, none⟩ = some (.string r.ten) := bx 0 _ rfl
  have r0 := fun (w' : World) (h : Ext W w') => h.cellk x0
  have x1 : W.cell? ⟨w.heap.size, 1, none⟩ = some (.int .i64 r.clock) := bx 1 _ rfl
  have r1 := fun (w' : World) (h : Ext W w') => h.cellk x1
  have x2 : W.cell? ⟨w.heap.size, 2, none⟩ = some (.int .i64 r.kind) := bx 2 _ rfl
  have r2 := fun (w' : World) (h : Ext W w') => h.cellk x2
  have x3 : W.cell? ⟨w.heap.size, 3, none⟩ = some (.int .i64 r.code) := bx 3 _ rfl
  have r3 := fun (w' : World) (h : Ext W w') => h.cellk x3
  have x4 : W.cell? ⟨w.heap.size, 4, none⟩ = some (.int .i64 r.id) := bx 4 _ rfl
  have r4 := fun (w' : World) (h : Ext W w') => h.cellk x4
  have x5 : W.cell? ⟨w.heap.size, 5, none⟩ = some (.string r.st) := bx 5 _ rfl
  have r5 := fun (w' : World) (h : Ext W w') => h.cellk x5
  have x6 : W.cell? ⟨w.heap.size, 6, none⟩ = some (.string r.su) := bx 6 _ rfl
  have r6 := fun (w' : World) (h : Ext W w') => h.cellk x6
  have x7 : W.cell? ⟨w.heap.size, 7, none⟩ = some (.int .i64 r.slot) := bx 7 _ rfl
  have r7 := fun (w' : World) (h : Ext W w') => h.cellk x7
  have x8 : W.cell? ⟨w.heap.size, 8, none⟩ = some (.int .i64 r.uses) := bx 8 _ rfl
  have r8 := fun (w' : World) (h : Ext W w') => h.cellk x8
  have x9 : W.cell? ⟨w.heap.size, 9, none⟩ = some (.int .i64 r.num) := bx 9 _ rfl
  have r9 := fun (w' : World) (h : Ext W w') => h.cellk x9
  have x10 : W.cell? ⟨w.heap.size, 10, none⟩ = some (.slice A r.sealed.length c) := bx 10 _ rfl
  have r10 := fun (w' : World) (h : Ext W w') => h.cellk x10
  clear bx
  have hSW := hS.ext hE
  have hbg := big_any W r A c hSW hc hr.n hr.m hr.ten hr.st hr.su
  obtain ⟨v, hv⟩ : ∃ v, bigG r = v := ⟨_, rfl⟩
  rw [hv] at hbg
  have hwo := works_any
  have hY : Ext W W := Ext.refl W
  cases v
  · have hnb : ¬ BigR r := by unfold bigG at hv; exact of_decide_eq_false hv
    have hok := bigR_not hnb hr.ints
    have hn := hok.n
    have hm := hok.m
    have hcp := fun (w' : World) (h : Ext W w') => copyRecord_any w' r A c (hSW.ext h) hc (by omega) (fun x hx => by have := hm x hx; omega)
    have hpu := fun (w' : World) A' c' hS' hc' => putq_any w' r hok A' c' hS' hc'
    have hrp := fun (w' : World) (h : Ext W w') => rputq_any w' r hok A c (hSW.ext h) hc
    have hck := fun (w' : World) A' c' hS' hc' => check_any w' r A' c' hS' hc' (by omega) (fun x hx => by have := hm x hx; omega) (by have := hok.ten; omega) (by have := hok.st; omega) (by have := hok.su; omega)
    have hrc := fun (w' : World) (h : Ext W w') => rcheck_any w' r A c (hSW.ext h) hc (by omega) (fun x hx => by have := hm x hx; omega)
    have hsr := fun (w' : World) A' c' hS' hc' (h : Ext W w') => sameRecord_any w' r r A' c' hS' hc' (by omega) (fun x hx => by have := hm x hx; omega) A c (hSW.ext h) hc
    rw [recEq_refl] at hsr
    have hL := putB_len hok
    have hsb := fun (w' : World) A1 c1 h1 h2 A2 c2 h3 h4 => sameBytes_any w' A1 c1 (putB r) h1 h2 (by omega) A2 c2 (putB r) h3 h4
    have hsp := fun (w' : World) lo hi A1 c1 h1 h2 => spoilBytes_any w' lo hi A1 c1 (putB r) h1 h2 hL
    simp only [beq_self_eq_true] at hsb
    unfold PutQ at hpu hrp
    obtain ⟨cv, hcv⟩ : ∃ v, checkG r = v := ⟨_, rfl⟩
    obtain ⟨L, hLe⟩ : ∃ L, putB r = L := ⟨_, rfl⟩
    obtain ⟨k, hk⟩ : ∃ k, r.sealed.length = k := ⟨_, rfl⟩
    rw [hcv] at hpu hrp hck hrc
    rw [hLe] at hpu hrp hsb hsp
    rw [hk] at hc hW x10 r10 hbg hcp hpu hrp hck hrc hsr ⊢
    clear hS hv hnb hn hcv hLe hL hk
    go_enter Tryd.func3, Tryd.ntmps3
    go_upto_region 1 with fail
    rw [← hW]
    clear hW
    go_upto_region 3 with (go_at_call 9; (with_reducible refine hbg.mono ?_); rintro e w1 ⟨rfl, hE1⟩)
    go_upto_region 4 with (go_at_call 11; (with_reducible refine (hcp _ hE1).mono ?_); rintro e w2 ⟨A2, c2, rfl, hc2, hS2, hE2⟩)
    obtain ⟨V, hV, hEV, -⟩ := box1 w2 #[.string r.ten, .int .i64 r.clock, .int .i64 r.kind, .int .i64 r.code, .int .i64 r.id, .string r.st, .string r.su, .int .i64 r.slot, .int .i64 r.uses, .int .i64 r.num, .slice A2 k c2] 25
    have D : Blk V w2.heap.size 25 #[.string r.ten, .int .i64 r.clock, .int .i64 r.kind, .int .i64 r.code, .int .i64 r.id, .string r.st, .string r.su, .int .i64 r.slot, .int .i64 r.uses, .int .i64 r.num, .slice A2 k c2] := by rw [hV]; exact Blk.new _ _ _
    rw [← hV]
    have ac0 := D.cell 0 (v := .string r.ten) rfl
    have ar0 := fun (w' : World) (h : Ext V w') => h.cellk ac0
    have ac1 := D.cell 1 (v := .int .i64 r.clock) rfl
    have ar1 := fun (w' : World) (h : Ext V w') => h.cellk ac1
    have ac2 := D.cell 2 (v := .int .i64 r.kind) rfl
    have ar2 := fun (w' : World) (h : Ext V w') => h.cellk ac2
    have ac3 := D.cell 3 (v := .int .i64 r.code) rfl
    have ar3 := fun (w' : World) (h : Ext V w') => h.cellk ac3
    have ac4 := D.cell 4 (v := .int .i64 r.id) rfl
    have ar4 := fun (w' : World) (h : Ext V w') => h.cellk ac4
    have ac5 := D.cell 5 (v := .string r.st) rfl
    have ar5 := fun (w' : World) (h : Ext V w') => h.cellk ac5
    have ac6 := D.cell 6 (v := .string r.su) rfl
    have ar6 := fun (w' : World) (h : Ext V w') => h.cellk ac6
    have ac7 := D.cell 7 (v := .int .i64 r.slot) rfl
    have ar7 := fun (w' : World) (h : Ext V w') => h.cellk ac7
    have ac8 := D.cell 8 (v := .int .i64 r.uses) rfl
    have ar8 := fun (w' : World) (h : Ext V w') => h.cellk ac8
    have ac9 := D.cell 9 (v := .int .i64 r.num) rfl
    have ar9 := fun (w' : World) (h : Ext V w') => h.cellk ac9
    have ac10 := D.cell 10 (v := .slice A2 k c2) rfl
    have ar10 := fun (w' : World) (h : Ext V w') => h.cellk ac10
    have hWV : Ext W V := (hE1.trans hE2).trans hEV
    have hS2 := only_sl hS2 hEV (Nat.le_refl _)
    have hV2 : w2.heap.size ≤ V.heap.size := hEV.le
    have hV1 : w1.heap.size ≤ w2.heap.size := hE2.le
    have hYV : Ext V V := Ext.refl V
    clear hV D hcp hbg hE1 hE2 hEV
    go_upto_region 7 with (first | (go_at_call 12; (with_reducible refine (hpu _ _ _ (hS2.mono only_cle) hc2).mono ?_); rintro e w3 ⟨A3, n3, c3, rfl, hn3, hc3, -, hS3, hE3⟩; have hX3 : Ext V w3 := hE3) | (go_at_call 12; (with_reducible refine (hpu _ _ _ ((hS2.mono only_cle).ext hX3) hc2).mono ?_); rintro e w4 ⟨A4, n4, c4, rfl, hn4, hc4, -, hS4, hE4⟩; have hX4 : Ext V w4 := hX3.trans hE4; have hZ4 := hWV.trans hX4) | (go_at_call 13; (with_reducible refine (hrp _ (hWV.trans hX4)).mono ?_); rintro e w5 ⟨A5, n5, c5, rfl, hn5, hc5, -, hS5, hE5⟩; have hX5 : Ext V w5 := hX4.trans hE5))
    obtain rfl : n3 = n4 := hn3.symm.trans hn4
    obtain rfl : n3 = n5 := hn3.symm.trans hn5
    subst hn3
    have q3 := only_sl hS3 (hE4.trans hE5) (Nat.le_refl _)
    have q4 := only_sl hS4 hE5 (Nat.le_refl _)
    clear hn4 hn5 hS3 hS4
    have sV := fun (w' : World) (h : Ext w5 w') => hX5.trans h
    have sW := fun (w' : World) (h : Ext w5 w') => (hWV.trans hX5).trans h
    refine wp_region_noPanic ?_
    refine tr_start (.y 0 (.y 2 (.e 1 (.e 3 (.y 4 (.y 5 (.y 6 (.y 7 (.y 8 (.y 9 (.y 10 (.y 11 (.y 12 (.y 13 (.y 14 (.y 15 (.y 16 (.y 17 (.e 18 (.y 19 (.y 20 .nil))))))))))))))))))))) (fun w' => Ext w5 w') (by kernel_rfl) (by kernel_rfl) (fun _ _ _ _ _ h => h) (by (repeat (first | assumption | exact Ext.refl _ | refine Ext.drew ?_ | refine Ext.alloc ?_ _ | refine Ext.drewN ?_ _ | refine Ext.trans ?_ (by assumption)))) ?_
    iterate 2 (first | (refine tr_off (a' := ?_) rfl rfl (by rfl) ?_ ?_; rotate_left 1; (· simp only [Act.put, List.setIfInBounds_toArray, List.set_cons_zero, List.set_cons_succ]; rfl)) | (refine tr_y (v := ?_) (a' := ?_) rfl rfl (by rfl) (fun w' hw' => ?_) ?_ ?_; rotate_left 2; (· go_simp; with_reducible rfl); (· simp only [Act.put, List.setIfInBounds_toArray, List.set_cons_zero, List.set_cons_succ]; rfl)))
    have hYd : Ext w5 w5.drew := by (repeat (first | assumption | exact Ext.refl _ | refine Ext.drew ?_ | refine Ext.alloc ?_ _ | refine Ext.drewN ?_ _ | refine Ext.trans ?_ (by assumption)))
    generalize w5.drew = wd at hYd ⊢
    refine tr_call (args := ?_) rfl Tryd.func14 (by kernel_rfl) rfl (by rfl) rfl rfl ?_ ?_
    rotate_left 1
    · go_simp; rfl
    (with_reducible refine (hck _ _ _ ((hS2.mono only_cle).ext (hX5.trans hYd)) hc2).mono ?_)
    rintro e w6 ⟨rfl, hE6⟩
    refine ⟨_, _, rfl, hYd.trans hE6, (by simp only [Act.put, List.setIfInBounds_toArray, List.set_cons_zero, List.set_cons_succ]; rfl), ?_⟩
    have hY6 := hYd.trans hE6
    refine tr_call (args := ?_) rfl Tryd.func15 (by kernel_rfl) rfl (by rfl) rfl rfl ?_ ?_
    rotate_left 1
    · go_simp; rfl
    (with_reducible refine (hrc _ (hWV.trans (hX5.trans hY6))).mono ?_)
    rintro e w7 ⟨rfl, hE7⟩
    refine ⟨_, _, rfl, hY6.trans hE7, (by simp only [Act.put, List.setIfInBounds_toArray, List.set_cons_zero, List.set_cons_succ]; rfl), ?_⟩
    iterate 14 (first | (refine tr_off (a' := ?_) rfl rfl (by rfl) ?_ ?_; rotate_left 1; (· simp only [Act.put, List.setIfInBounds_toArray, List.set_cons_zero, List.set_cons_succ]; rfl)) | (refine tr_y (v := ?_) (a' := ?_) rfl rfl (by rfl) (fun w' hw' => ?_) ?_ ?_; rotate_left 2; (· go_simp; with_reducible rfl); (· simp only [Act.put, List.setIfInBounds_toArray, List.set_cons_zero, List.set_cons_succ]; rfl)))
    have hY7 := hY6.trans hE7
    refine tr_call (args := ?_) rfl Tryd.func16 (by kernel_rfl) rfl (by rfl) rfl rfl ?_ ?_
    rotate_left 1
    · go_simp; rfl
    (with_reducible refine (hsb _ _ _ ((q3.mono only_cle).ext hY7) hc3 _ _ ((hS5.mono only_cle).ext hY7) hc5).mono ?_)
    rintro e w8 ⟨rfl, hE8⟩
    refine ⟨_, _, rfl, hY7.trans hE8, (by simp only [Act.put, List.setIfInBounds_toArray, List.set_cons_zero, List.set_cons_succ]; rfl), ?_⟩
    iterate 2 (first | (refine tr_off (a' := ?_) rfl rfl (by rfl) ?_ ?_; rotate_left 1; (· simp only [Act.put, List.setIfInBounds_toArray, List.set_cons_zero, List.set_cons_succ]; rfl)) | (refine tr_y (v := ?_) (a' := ?_) rfl rfl (by rfl) (fun w' hw' => ?_) ?_ ?_; rotate_left 2; (· go_simp; with_reducible rfl); (· simp only [Act.put, List.setIfInBounds_toArray, List.set_cons_zero, List.set_cons_succ]; rfl)))
    have hY8 := hY7.trans hE8
    refine tr_end (NoPanic.normal ?_)
    have p3 := only_sl q3 hY8 (Nat.le_trans hE4.le hE5.le)
    have p4 := only_sl q4 hY8 hE5.le
    have p5 := only_sl hS5 hY8 (Nat.le_refl _)
    go_upto_region 10 with (go_at_call 17; (with_reducible refine (hsp _ _ _ _ _ p3 hc3).mono ?_); rintro e w9 ⟨rfl, hX9, -⟩)
    have l3 := hE4.le
    have l4 := hE5.le
    have l5 := hY8.le
    have hV9 : Ext V w9 := Exc.ext (hX5.trans hY8) hX9 (Nat.le_refl _)
    have hW9 : Ext W w9 := hWV.trans hV9
    have t4 := (only_slx p4 hX9 (Nat.le_trans l4 l5) (.inr (Nat.le_refl _))).mono only_cle
    have t5 := (only_slx p5 hX9 l5 (.inr l3)).mono only_cle
    have t2 := (only_sl hS2 hV9 hV2).mono only_cle
    clear p3 p4 p5 q3 q4 sV sW hX9 hS2 hS5 hsp hpu hrp hck hrc
    go_wp2_with (first | (go_at_call 16; (with_reducible refine (hsb _ _ _ t4 hc4 _ _ t5 hc5).mono ?_); rintro e w10 ⟨rfl, hE10⟩; have hV10 := hV9.trans hE10; have hW10 := hW9.trans hE10) | (go_at_call 18; (with_reducible refine (hsr _ _ _ (t2.ext hE10) hc2 hW10).mono ?_); rintro e w11 ⟨rfl, hE11⟩) | (go_at_call 10; (with_reducible refine (hwo _).mono ?_); rintro e w12 ⟨rfl, hE12⟩))
    go_ret
    exact ⟨rfl, hE.trans ((hW10.trans hE11).trans hE12)⟩
  · go_enter Tryd.func3, Tryd.ntmps3
    go_upto_region 1 with fail
    rw [← hW]
    clear hW
    go_wp2_with (first | (go_at_call 9; (with_reducible refine hbg.mono ?_); rintro e w1 ⟨rfl, hE1⟩) | (go_at_call 10; (with_reducible refine (hwo _).mono ?_); rintro e w2 ⟨rfl, hE2⟩))
    go_ret
    exact ⟨rfl, (hE.trans hE1).trans hE2⟩
end Go.Proofs.YtkmjnbfhfjafpaaDoor
