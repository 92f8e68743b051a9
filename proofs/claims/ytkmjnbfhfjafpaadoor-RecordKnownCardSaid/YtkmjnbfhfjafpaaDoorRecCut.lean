/- The law RecordCut, walked. -/
import Derived.Test.YtkmjnbfhfjafpaaDoorRecBack
namespace Go.Proofs.YtkmjnbfhfjafpaaDoor
set_option linter.unusedVariables false
set_option linter.unusedSimpArgs false
open Go.RowKit
theorem sl_take {α : Type} {d : Rd α} {w : World} {A : Option Addr} {n : Nat} {xs : List α} (h : d.Sl w A n xs) (i : Nat) (hi : i ≤ n) : d.Sl w A i (xs.take i) := by
  have h1 := h.1
  refine sl_pre (xs := xs.take i) (ys := xs.drop i) (by rw [List.take_append_drop]; exact h) ?_
  rw [List.length_take]; omega
theorem pickN (v : Int) (n : Nat) (hv : intOk v) (hn : n ≤ 4294967296) (h0 : 0 < n) (w : World) : Calls Tryd.prog 24 #[.int .i64 v, .int .i64 n] w fun e w' => ∃ i : Nat, e = .returned (.int .i64 i) ∧ i < n ∧ w = w' := by
  refine (pick_any v n hv (by omega) w).mono ?_
  rintro e w' ⟨i, rfl, h1, -, rfl⟩
  obtain ⟨h2, h3⟩ := h1 (by omega)
  exact ⟨i.toNat, by rw [Int.toNat_of_nonneg h2], by omega, rfl⟩
theorem recB_len2 {r : Rec} (h : RecOk r) : (recB r).length ≤ 1100000000 := by
  have h1 := blobsB_len r.sealed h.m r.sealed.length
  rw [List.take_length] at h1
  have h2 := Nat.mul_le_mul_right 1048584 h.n
  have h3 := h.ten
  have h4 := h.st
  have h5 := h.su
  unfold recB
  simp only [List.length_append, txtB_len, numsB_len, List.length_cons, List.length_nil]
  omega
theorem recB_pos (r : Rec) : 0 < (recB r).length := by
  unfold recB
  simp only [List.length_append, txtB_len]
  omega
set_option maxHeartbeats 9000000 in
set_option maxRecDepth 100000 in
theorem cut_walk (w : World) (r : Rec) (A : Option Addr) (c : Nat) (hS : rdB.Sl w A r.sealed.length r.sealed) (hc : r.sealed.length ≤ c) (hr : RecIn r) (x : Int) (hx : intOk x) (B : Option Addr) (d : Nat) (more : List UInt8) (hSB : Rd.u8.Sl w B more.length more) (hd : more.length ≤ d) (hb : more.length ≤ 140737488351232) :
    Calls Tryd.prog 6 #[.agg #[.string r.ten, .int .i64 r.clock, .int .i64 r.kind, .int .i64 r.code, .int .i64 r.id, .string r.st, .string r.su, .int .i64 r.slot, .int .i64 r.uses, .int .i64 r.num, .slice A r.sealed.length c], .int .i64 x, .slice B more.length d] w fun e w' => e = .returned (.bool true) ∧ Ext w w' := by
  obtain ⟨W, hW, hE, bx⟩ := box1 w #[.string r.ten, .int .i64 r.clock, .int .i64 r.kind, .int .i64 r.code, .int .i64 r.id, .string r.st, .string r.su, .int .i64 r.slot, .int .i64 r.uses, .int .i64 r.num, .slice A r.sealed.length c] 25
  have x0 : W.cell? ⟨w.heap.size, 0, none⟩ = some (.string r.ten) := bx 0 _ rfl
  have r0 := fun (w' : World) (h : Ext W w') => h.cellk x0
  have x1 : W.cell? ⟨w.heap.size, 1, none⟩ = some (.int .i64 r.clock) := bx 1 _ rfl
  have r1 := fun (w' : World) (h : Ext W w') => h.cellk x1
  have x2 : W.cell? ⟨w.heap.size, 2, none⟩ = some (.int .i64 r.kind) := bx 2 _ rfl
  have r2 := fun (w' : World) (h : Ext W w') => h.cellk x2
  have x3 : W.cell? ⟨w.heap.size, 3, none⟩ = some (.int .i64 r.code) := bx 3 _ rfl
  have r3 := fun (w' : World) (h : Ext W w') => h.cellk x3
  have x4 : W.cell? ⟨w.heap.size, 4, none⟩ = some (.int .i64 r.id) := bx 4 _ rfl
  have r4 := fun (w' : World) (h : Ext W w') => h.cellk x4
  have x5 : W.cell? ⟨w.heap.size, 5, none⟩ = some (.string r.st) := bx 5 _ rfl
  have r5 := fun (w' : World) (h : Ext W w') => h.cellk x5
  have x6 : W.cell? ⟨w.heap.size, 6, none⟩ = some (.string r.su) := bx 6 _ rfl
  have r6 := fun (w' : World) (h : Ext W w') => h.cellk x6
  have x7 : W.cell? ⟨w.heap.size, 7, none⟩ = some (.int .i64 r.slot) := bx 7 _ rfl
  have r7 := fun (w' : World) (h : Ext W w') => h.cellk x7
  have x8 : W.cell? ⟨w.heap.size, 8, none⟩ = some (.int .i64 r.uses) := bx 8 _ rfl
  have r8 := fun (w' : World) (h : Ext W w') => h.cellk x8
  have x9 : W.cell? ⟨w.heap.size, 9, none⟩ = some (.int .i64 r.num) := bx 9 _ rfl
  have r9 := fun (w' : World) (h : Ext W w') => h.cellk x9
  have x10 : W.cell? ⟨w.heap.size, 10, none⟩ = some (.slice A r.sealed.length c) := bx 10 _ rfl
  have r10 := fun (w' : World) (h : Ext W w') => h.cellk x10
  clear bx
  have hSW := hS.ext hE
  have hbg := big_any W r A c hSW hc hr.n hr.m hr.ten hr.st hr.su
  obtain ⟨v, hv⟩ : ∃ v, bigG r = v := ⟨_, rfl⟩
  rw [hv] at hbg
  have hwo := works_any
  have hY : Ext W W := Ext.refl W
  obtain ⟨m, hbm⟩ : ∃ m, more.length = m := ⟨_, rfl⟩
  obtain ⟨k, hk⟩ : ∃ k, r.sealed.length = k := ⟨_, rfl⟩
  rw [hbm] at hSB hd hb ⊢
  cases v
  · by_cases hbb : 512 < m
    · rw [hk] at hW x10 r10 hbg ⊢
      go_enter Tryd.func6, Tryd.ntmps6
      go_upto_region 1 with fail
      rw [← hW]
      clear hW
      go_wp2_with (first | (go_at_call 9; (with_reducible refine hbg.mono ?_); rintro e w1 ⟨rfl, hE1⟩) | (go_at_call 10; (with_reducible refine (hwo _).mono ?_); rintro e w2 ⟨rfl, hE2⟩))
      go_ret
      exact ⟨rfl, (hE.trans hE1).trans hE2⟩
    · have hbI : decide ((512 : Int) < (m : Int)) = false := by simp; omega
      have hnb : ¬ BigR r := by unfold bigG at hv; exact of_decide_eq_false hv
      have hok := bigR_not hnb hr.ints
      by_cases hz : checkG r = 0
      · have hpu := fun (w' : World) (h : Ext W w') => put_yes w' r hok hz A c (hSW.ext h) hc
        have hL := recB_len2 hok
        obtain ⟨⟨rq, vq⟩, hg3⟩ : ∃ p, getG (recB r ++ more) = p := ⟨_, rfl⟩
        have H3 := Lib.hid hg3
        have H2 := Lib.hid hz
        rw [hk] at hW x10 r10 hbg hpu hc hSW ⊢
        have HK := Lib.hid hk
        have h1m := encB_one more
        have HB := Lib.hid hbm
        clear hS hv hk hg3 hnb
        go_enter Tryd.func6, Tryd.ntmps6
        go_upto_region 1 with fail
        rw [← hW]
        clear hW
        go_upto_region 6 with (first | (go_at_call 9; (with_reducible refine hbg.mono ?_); rintro e w1 ⟨rfl, hE1⟩) | (go_at_call 12; (with_reducible refine (hpu _ hE1).mono ?_); rintro e w2 ⟨A2, n2, c2, rfl, hn2, hc2, hS2, hE2⟩; have hX2 := hE1.trans hE2))
        have hL2 : n2 ≤ 4294967296 := by omega
        have hL3 : n2 ≤ 1100000000 := by omega
        have hp2 : 0 < n2 := by have := recB_pos r; omega
        have HN2 := Lib.hid hn2
        have hpk := pickN x n2 hx hL2 hp2
        have hgc := fun (w' : World) (i : Nat) (hi : i < n2) A1 c1 h2 h3 h4 => getq_any w' A1 i c1 ((recB r).take i) (by rw [List.length_take]; omega) h2 h3 h4 zeroR 4 (get_cut r hz hr.ints i (by omega))
        have hgm := fun (w' : World) A1 c1 h2 h3 => getq_any w' A1 (n2 + m) c1 (recB r ++ more) (by rw [List.length_append, hn2, hbm]) h2 h3 (by omega) rq vq H3.out
        have hcp := fun (w' : World) A1 c1 (h1 : Rd.u8.Sl w' A1 n2 (recB r)) (h2 : n2 ≤ c1) => ((by
          have h := copyBytes_any w' A1 c1 (recB r) (by rw [hn2]; exact h1) (by rw [hn2]; exact h2) (by omega)
          rw [hn2] at h
          exact h) : Calls Tryd.prog 25 #[.slice A1 n2 c1] w' _)
        clear hn2 hL hpu hbg hz
        have hsz := same_zero
        dsimp only [zeroR] at hgc
        go_upto_region 7 with (first | (go_at_call 24; (with_reducible refine (hpk _).mono ?_); rintro e w3 ⟨i, rfl, hi, rfl⟩; have hin : i ≤ n2 := Nat.le_of_lt hi; have hic : i ≤ c2 := Nat.le_trans hin hc2; have hib : i ≤ 4294967296 := Nat.le_trans hin hL2) | (refine wpList_slice_to rfl elt_bytes (.tmp 30) (.tmp 34) rfl A2 n2 c2 i rfl rfl hin hc2 ?_) | (go_at_call 20; (with_reducible refine (hgc _ i hi _ c2 (sl_take hS2 i hin) hic hib).mono ?_); rintro e w4 ⟨A4, n4, c4, rfl, hn4, hc4, hS4, hE4⟩; obtain rfl : 0 = n4 := hn4))
        obtain ⟨V4, hV4, hEV4, -⟩ := box1 w4 #[.string ⟨#[]⟩, .int .i64 0, .int .i64 0, .int .i64 0, .int .i64 0, .string ⟨#[]⟩, .string ⟨#[]⟩, .int .i64 0, .int .i64 0, .int .i64 0, .slice A4 0 c4] 25
        have D4 : Blk V4 w4.heap.size 25 #[.string ⟨#[]⟩, .int .i64 0, .int .i64 0, .int .i64 0, .int .i64 0, .string ⟨#[]⟩, .string ⟨#[]⟩, .int .i64 0, .int .i64 0, .int .i64 0, .slice A4 0 c4] := by rw [hV4]; exact Blk.new _ _ _
        rw [← hV4]
        have hX4 := hX2.trans (hE4.trans hEV4)
        have hS2 := hS2.ext (hE4.trans hEV4)
        have hcp := hcp V4 _ _ hS2 hc2
        clear hV4 hS4 hgc hpk
        go_upto_region 8 with (first | (go_at_call 25; (with_reducible refine hcp.mono ?_); rintro e w5 ⟨v5, rfl, hown5, hE5⟩; have hcm5 : Cells w5 B m 1 (more.flatMap encB) := b_cells ((hSB.ext hE).ext (hX4.trans hE5))) | (at_builtin; refine wpList_append_cells rfl elt_bytes (.tmp 41) (.tmp 42) rfl hown5 rfl rfl hcm5 h1m (by unfold maxLen; omega) (by omega) hE5.le ?_; intro v6 w6 hown6 hg6; have hE6 := grown_ext hE5 hown5 hg6; rw [← List.flatMap_append] at hown6; obtain ⟨A6, c6, rfl, hc6, -, hS6⟩ := own_bytes (lo := 0) (hi := w6.heap.size) (l := recB r ++ more) (by rw [List.length_append, HN2.out, hbm]; exact hown6) (Nat.zero_le _) (Nat.le_refl _); rw [List.length_append, HN2.out, hbm] at hc6 hS6; simp only [List.length_append, HN2.out, hbm]; have hS6 := hS6.mono only_cle) | (go_at_call 20; (with_reducible refine (hgm _ _ _ hS6 hc6).mono ?_); rintro e w7 ⟨A7, n7, c7, rfl, hn7, hc7, hS7, hE7⟩))
        obtain ⟨V7, hV7, hEV7, -⟩ := box1 w7 #[.string rq.ten, .int .i64 rq.clock, .int .i64 rq.kind, .int .i64 rq.code, .int .i64 rq.id, .string rq.st, .string rq.su, .int .i64 rq.slot, .int .i64 rq.uses, .int .i64 rq.num, .slice A7 n7 c7] 25
        have D7 : Blk V7 w7.heap.size 25 #[.string rq.ten, .int .i64 rq.clock, .int .i64 rq.kind, .int .i64 rq.code, .int .i64 rq.id, .string rq.st, .string rq.su, .int .i64 rq.slot, .int .i64 rq.uses, .int .i64 rq.num, .slice A7 n7 c7] := by rw [hV7]; exact Blk.new _ _ _
        rw [← hV7]
        have hS7 := hS7.ext hEV7
        have hXV := hE6.trans (hE7.trans hEV7)
        have hX7 := hX4.trans hXV
        have D4 := D4.ext hXV
        clear hV7 hcm5 hown5 hg6 hown6 hS6 hgm hcp hS2
        have gc0 := D4.cell 0 (v := .string ⟨#[]⟩) rfl
        have gr0 := fun (w' : World) (h : Ext V7 w') => h.cellk gc0
        have gc1 := D4.cell 1 (v := .int .i64 0) rfl
        have gr1 := fun (w' : World) (h : Ext V7 w') => h.cellk gc1
        have gc2 := D4.cell 2 (v := .int .i64 0) rfl
        have gr2 := fun (w' : World) (h : Ext V7 w') => h.cellk gc2
        have gc3 := D4.cell 3 (v := .int .i64 0) rfl
        have gr3 := fun (w' : World) (h : Ext V7 w') => h.cellk gc3
        have gc4 := D4.cell 4 (v := .int .i64 0) rfl
        have gr4 := fun (w' : World) (h : Ext V7 w') => h.cellk gc4
        have gc5 := D4.cell 5 (v := .string ⟨#[]⟩) rfl
        have gr5 := fun (w' : World) (h : Ext V7 w') => h.cellk gc5
        have gc6 := D4.cell 6 (v := .string ⟨#[]⟩) rfl
        have gr6 := fun (w' : World) (h : Ext V7 w') => h.cellk gc6
        have gc7 := D4.cell 7 (v := .int .i64 0) rfl
        have gr7 := fun (w' : World) (h : Ext V7 w') => h.cellk gc7
        have gc8 := D4.cell 8 (v := .int .i64 0) rfl
        have gr8 := fun (w' : World) (h : Ext V7 w') => h.cellk gc8
        have gc9 := D4.cell 9 (v := .int .i64 0) rfl
        have gr9 := fun (w' : World) (h : Ext V7 w') => h.cellk gc9
        have gc10 := D4.cell 10 (v := .slice A4 0 c4) rfl
        have gr10 := fun (w' : World) (h : Ext V7 w') => h.cellk gc10
        have hYV : Ext V7 V7 := Ext.refl V7
        by_cases hm0 : m = 0
        · have hme : more = [] := List.eq_nil_of_length_eq_zero (by rw [HB.out]; exact hm0)
          have hr3 : (rq, vq) = (r, 0) := by
            have h := H3.out
            rw [hme, List.append_nil, get_back r H2.out hr.ints] at h
            exact h.symm
          obtain ⟨e1, e2⟩ := Prod.mk.inj hr3.symm
          subst e1
          subst e2
          obtain rfl : k = n7 := HK.out.symm.trans hn7
          have hss := fun (w' : World) A1 A2 c1 c2 h1 h2 h3 h4 => same_self w' r hok k hn7 A1 A2 c1 c2 h1 h2 h3 h4
          subst hm0
          have ec0 := D7.cell 0 (v := .string r.ten) rfl
          have er0 := fun (w' : World) (h : Ext V7 w') => h.cellk ec0
          have ec1 := D7.cell 1 (v := .int .i64 r.clock) rfl
          have er1 := fun (w' : World) (h : Ext V7 w') => h.cellk ec1
          have ec2 := D7.cell 2 (v := .int .i64 r.kind) rfl
          have er2 := fun (w' : World) (h : Ext V7 w') => h.cellk ec2
          have ec3 := D7.cell 3 (v := .int .i64 r.code) rfl
          have er3 := fun (w' : World) (h : Ext V7 w') => h.cellk ec3
          have ec4 := D7.cell 4 (v := .int .i64 r.id) rfl
          have er4 := fun (w' : World) (h : Ext V7 w') => h.cellk ec4
          have ec5 := D7.cell 5 (v := .string r.st) rfl
          have er5 := fun (w' : World) (h : Ext V7 w') => h.cellk ec5
          have ec6 := D7.cell 6 (v := .string r.su) rfl
          have er6 := fun (w' : World) (h : Ext V7 w') => h.cellk ec6
          have ec7 := D7.cell 7 (v := .int .i64 r.slot) rfl
          have er7 := fun (w' : World) (h : Ext V7 w') => h.cellk ec7
          have ec8 := D7.cell 8 (v := .int .i64 r.uses) rfl
          have er8 := fun (w' : World) (h : Ext V7 w') => h.cellk ec8
          have ec9 := D7.cell 9 (v := .int .i64 r.num) rfl
          have er9 := fun (w' : World) (h : Ext V7 w') => h.cellk ec9
          have ec10 := D7.cell 10 (v := .slice A7 k c7) rfl
          have er10 := fun (w' : World) (h : Ext V7 w') => h.cellk ec10
          clear hn7 hr3 hme
          go_upto_region 11 with (go_at_call 18; (with_reducible refine (hsz _ _ _).mono ?_); rintro e w8 ⟨rfl, hE8⟩; have hX8 := hX7.trans hE8)
          go_wp2_with (first | (go_at_call 18; (with_reducible refine (hss _ _ _ _ _ (hS7.ext hE8) hc7 (hSW.ext hX8) hc).mono ?_); rintro e w9 ⟨rfl, hE9⟩; have hX9 := hX8.trans hE9) | (go_at_call 10; (with_reducible refine (hwo _).mono ?_); rintro e w10 ⟨rfl, hE10⟩))
          go_ret
          exact ⟨rfl, hE.trans (hX9.trans hE10)⟩
        · have hmn : more ≠ [] := by rintro rfl; exact hm0 HB.out.symm
          have hr3 : (rq, vq) = (zeroR, 5) := by
            have h := H3.out
            rw [get_more r H2.out hr.ints more hmn] at h
            exact h.symm
          obtain ⟨rfl, rfl⟩ := Prod.mk.inj hr3
          obtain rfl : 0 = n7 := hn7
          have hm1 : (((m : Int)) == 0) = false := by simp; omega
          dsimp only [zeroR] at D7
          have ec0 := D7.cell 0 (v := .string ⟨#[]⟩) rfl
          have er0 := fun (w' : World) (h : Ext V7 w') => h.cellk ec0
          have ec1 := D7.cell 1 (v := .int .i64 0) rfl
          have er1 := fun (w' : World) (h : Ext V7 w') => h.cellk ec1
          have ec2 := D7.cell 2 (v := .int .i64 0) rfl
          have er2 := fun (w' : World) (h : Ext V7 w') => h.cellk ec2
          have ec3 := D7.cell 3 (v := .int .i64 0) rfl
          have er3 := fun (w' : World) (h : Ext V7 w') => h.cellk ec3
          have ec4 := D7.cell 4 (v := .int .i64 0) rfl
          have er4 := fun (w' : World) (h : Ext V7 w') => h.cellk ec4
          have ec5 := D7.cell 5 (v := .string ⟨#[]⟩) rfl
          have er5 := fun (w' : World) (h : Ext V7 w') => h.cellk ec5
          have ec6 := D7.cell 6 (v := .string ⟨#[]⟩) rfl
          have er6 := fun (w' : World) (h : Ext V7 w') => h.cellk ec6
          have ec7 := D7.cell 7 (v := .int .i64 0) rfl
          have er7 := fun (w' : World) (h : Ext V7 w') => h.cellk ec7
          have ec8 := D7.cell 8 (v := .int .i64 0) rfl
          have er8 := fun (w' : World) (h : Ext V7 w') => h.cellk ec8
          have ec9 := D7.cell 9 (v := .int .i64 0) rfl
          have er9 := fun (w' : World) (h : Ext V7 w') => h.cellk ec9
          have ec10 := D7.cell 10 (v := .slice A7 0 c7) rfl
          have er10 := fun (w' : World) (h : Ext V7 w') => h.cellk ec10
          clear hr3 hmn
          go_upto_region 12 with (go_at_call 18; (with_reducible refine (hsz _ _ _).mono ?_); rintro e w8 ⟨rfl, hE8⟩; have hX8 := hX7.trans hE8)
          go_wp2_with (first | (go_at_call 18; (with_reducible refine (hsz _ _ _).mono ?_); rintro e w9 ⟨rfl, hE9⟩; have hX9 := hX8.trans hE9) | (go_at_call 10; (with_reducible refine (hwo _).mono ?_); rintro e w10 ⟨rfl, hE10⟩))
          go_ret
          exact ⟨rfl, hE.trans (hX9.trans hE10)⟩
      · have hz' : (checkG r != 0) = true := by simpa using hz
        have hpu := fun (w' : World) (h : Ext W w') => put_nay w' r hok hz A c (hSW.ext h) hc
        obtain ⟨cv, hcv⟩ : ∃ v, checkG r = v := ⟨_, rfl⟩
        rw [hcv] at hpu hz hz'
        rw [hk] at hW x10 r10 hbg hpu ⊢
        clear hS hv hk hcv hz
        go_enter Tryd.func6, Tryd.ntmps6
        go_upto_region 1 with fail
        rw [← hW]
        clear hW
        go_wp2_with (first | (go_at_call 9; (with_reducible refine hbg.mono ?_); rintro e w1 ⟨rfl, hE1⟩) | (go_at_call 12; (with_reducible refine (hpu _ hE1).mono ?_); rintro e w2 ⟨rfl, hE2⟩; have hX2 := hE1.trans hE2) | (go_at_call 10; (with_reducible refine (hwo _).mono ?_); rintro e w3 ⟨rfl, hE3⟩))
        go_ret
        exact ⟨rfl, hE.trans (hX2.trans hE3)⟩
  · rw [hk] at hW x10 r10 hbg ⊢
    go_enter Tryd.func6, Tryd.ntmps6
    go_upto_region 1 with fail
    rw [← hW]
    clear hW
    go_wp2_with (first | (go_at_call 9; (with_reducible refine hbg.mono ?_); rintro e w1 ⟨rfl, hE1⟩) | (go_at_call 10; (with_reducible refine (hwo _).mono ?_); rintro e w2 ⟨rfl, hE2⟩))
    go_ret
    exact ⟨rfl, (hE.trans hE1).trans hE2⟩
end Go.Proofs.YtkmjnbfhfjafpaaDoor
