/- The law RecordBack, walked. -/
import Derived.Test.YtkmjnbfhfjafpaaDoorRecGets
namespace Go.Proofs.YtkmjnbfhfjafpaaDoor
set_option linter.unusedVariables false
set_option linter.unusedSimpArgs false
open Go.RowKit
theorem put_yes (w : World) (r : Rec) (hr : RecOk r) (hz : checkG r = 0) (A : Option Addr) (c : Nat) (hS : rdB.Sl w A r.sealed.length r.sealed) (hc : r.sealed.length ≤ c) :
    Calls Tryd.prog 12 #[.agg #[.string r.ten, .int .i64 r.clock, .int .i64 r.kind, .int .i64 r.code, .int .i64 r.id, .string r.st, .string r.su, .int .i64 r.slot, .int .i64 r.uses, .int .i64 r.num, .slice A r.sealed.length c]] w fun e w' => ∃ A n c, e = .returned (.tuple #[.slice A n c, .int .i64 0]) ∧ (recB r).length = n ∧ n ≤ c ∧ Rd.u8.Sl w' A n (recB r) ∧ Ext w w' := by
  refine (putq_any w r hr A c hS hc).mono ?_
  rintro e w' ⟨A', n, c, rfl, h1, h2, h3, h4, h5⟩
  unfold putB at h1 h4
  rw [if_pos hz] at h1 h4
  exact ⟨A', n, c, by rw [hz], h1, h2, h4.mono only_cle, h5⟩
theorem put_nay (w : World) (r : Rec) (hr : RecOk r) (hz : checkG r ≠ 0) (A : Option Addr) (c : Nat) (hS : rdB.Sl w A r.sealed.length r.sealed) (hc : r.sealed.length ≤ c) :
    Calls Tryd.prog 12 #[.agg #[.string r.ten, .int .i64 r.clock, .int .i64 r.kind, .int .i64 r.code, .int .i64 r.id, .string r.st, .string r.su, .int .i64 r.slot, .int .i64 r.uses, .int .i64 r.num, .slice A r.sealed.length c]] w fun e w' => e = .returned (.tuple #[.slice none 0 0, .int .i64 (checkG r)]) ∧ Ext w w' := by
  refine (put_any w r hr A c hS hc).mono ?_
  rintro e w' ⟨h1, -, h2⟩
  exact ⟨h1 hz, h2⟩
theorem getq_any (w : World) (A : Option Addr) (n c : Nat) (l : List UInt8) (hn : l.length = n) (hS : Rd.u8.Sl w A n l) (hc : n ≤ c) (hb : n ≤ 4294967296) (r : Rec) (v : Int) (hg : getG l = (r, v)) :
    Calls Tryd.prog 20 #[.slice A n c] w fun e w' => ∃ A n c, e = .returned (.tuple #[.agg #[.string r.ten, .int .i64 r.clock, .int .i64 r.kind, .int .i64 r.code, .int .i64 r.id, .string r.st, .string r.su, .int .i64 r.slot, .int .i64 r.uses, .int .i64 r.num, .slice A n c], .int .i64 v]) ∧ r.sealed.length = n ∧ n ≤ c ∧ rdB.Sl w' A n r.sealed ∧ Ext w w' := by
  subst hn
  refine (get_any w A c l hS hc hb).mono fun _ _ hh => ?_
  obtain ⟨A', n, c', h0, h1, h2, h3, h4⟩ := get_is hg hh
  exact ⟨A', n, c', h0, h1, h2, h3.mono only_cle, h4⟩
theorem same_self (w : World) (r : Rec) (hr : RecOk r) (n : Nat) (hn : r.sealed.length = n) (A A' : Option Addr) (c c' : Nat) (hS : rdB.Sl w A n r.sealed) (hc : n ≤ c) (hS' : rdB.Sl w A' n r.sealed) (hc' : n ≤ c') :
    Calls Tryd.prog 18 #[.agg #[.string r.ten, .int .i64 r.clock, .int .i64 r.kind, .int .i64 r.code, .int .i64 r.id, .string r.st, .string r.su, .int .i64 r.slot, .int .i64 r.uses, .int .i64 r.num, .slice A n c], .agg #[.string r.ten, .int .i64 r.clock, .int .i64 r.kind, .int .i64 r.code, .int .i64 r.id, .string r.st, .string r.su, .int .i64 r.slot, .int .i64 r.uses, .int .i64 r.num, .slice A' n c']] w fun e w' => e = .returned (.bool true) ∧ Ext w w' := by
  subst hn
  have h := sameRecord_any w r r A c hS hc (by have := hr.n; omega) (fun x hx => by have := hr.m x hx; omega) A' c' hS' hc'
  rw [recEq_refl] at h
  exact h
theorem same_zero (w : World) (A : Option Addr) (c : Nat) : Calls Tryd.prog 18 #[.agg #[.string ⟨#[]⟩, .int .i64 0, .int .i64 0, .int .i64 0, .int .i64 0, .string ⟨#[]⟩, .string ⟨#[]⟩, .int .i64 0, .int .i64 0, .int .i64 0, .slice A 0 c], .agg #[.string ⟨#[]⟩, .int .i64 0, .int .i64 0, .int .i64 0, .int .i64 0, .string ⟨#[]⟩, .string ⟨#[]⟩, .int .i64 0, .int .i64 0, .int .i64 0, .slice none 0 0]] w fun e w' => e = .returned (.bool true) ∧ Ext w w' :=
  same_self w zeroR (zeroR_fit.ok) 0 rfl A none c 0 (Rd.Sl.none _ _ _) (Nat.zero_le _) (Rd.Sl.none _ _ _) (Nat.le_refl _)
set_option maxHeartbeats 9000000 in
set_option maxRecDepth 100000 in
theorem back_walk (w : World) (r : Rec) (A : Option Addr) (c : Nat) (hS : rdB.Sl w A r.sealed.length r.sealed) (hc : r.sealed.length ≤ c) (hr : RecIn r) (B : Option Addr) (d : Nat) (b : List UInt8) (hSB : Rd.u8.Sl w B b.length b) (hd : b.length ≤ d) (hb : b.length ≤ 140737488351232) :
    Calls Tryd.prog 5 #[.agg #[.string r.ten, .int .i64 r.clock, .int .i64 r.kind, .int .i64 r.code, .int .i64 r.id, .string r.st, .string r.su, .int .i64 r.slot, .int .i64 r.uses, .int .i64 r.num, .slice A r.sealed.length c], .slice B b.length d] w fun e w' => e = .returned (.bool true) ∧ Ext w w' := by
  obtain ⟨W, hW, hE, bx⟩ := box1 w #[.string r.ten, .int .i64 r.clock, .int .i64 r.kind, .int .i64 r.code, .int .i64 r.id, .string r.st, .string r.su, .int .i64 r.slot, .int .i64 r.uses, .int .i64 r.num, .slice A r.sealed.length c] 25
  have x0 : W.cell? ⟨w.heap.size, 0, none⟩ = some (.string r.ten) := bx 0 _ rfl
  have r0 := fun (w' : World) (h : Ext W w') => h.cellk x0
  have x1 : W.cell? ⟨w.heap.size, 1, none⟩ = some (.int .i64 r.clock) := bx 1 _ rfl
  have r1 := fun (w' : World) (h : Ext W w') => h.cellk x1
  have x2 : W.cell? ⟨w.heap.size, 2, none⟩ = some (.int .i64 r.kind) := bx 2 _ rfl
  have r2 := fun (w' : World) (h : Ext W w') => h.cellk x2
  have x3 : W.cell? ⟨w.heap.size, 3, none⟩ = some (.int .i64 r.code) := bx 3 _ rfl
  have r3 := fun (w' : World) (h : Ext W w') => h.cellk x3
  have x4 : W.cell? ⟨w.heap.size, 4, none⟩ = some (.int .i64 r.id) := bx 4 _ rfl
  have r4 := fun (w' : World) (h : Ext W w') => h.cellk x4
  have x5 : W.cell? ⟨w.heap.size, 5, none⟩ = some (.string r.st) := bx 5 _ rfl
  have r5 := fun (w' : World) (h : Ext W w') => h.cellk x5
  have x6 : W.cell? ⟨w.heap.size, 6, none⟩ = some (.string r.su) := bx 6 _ rfl
  have r6 := fun (w' : World) (h : Ext W w') => h.cellk x6
  have x7 : W.cell? ⟨w.heap.size, 7, none⟩ = some (.int .i64 r.slot) := bx 7 _ rfl
  have r7 := fun (w' : World) (h : Ext W w') => h.cellk x7
  have x8 : W.cell? ⟨w.heap.size, 8, none⟩ = some (.int .i64 r.uses) := bx 8 _ rfl
  have r8 := fun (w' : World) (h : Ext W w') => h.cellk x8
  have x9 : W.cell? ⟨w.heap.size, 9, none⟩ = some (.int .i64 r.num) := bx 9 _ rfl
  have r9 := fun (w' : World) (h : Ext W w') => h.cellk x9
  have x10 : W.cell? ⟨w.heap.size, 10, none⟩ = some (.slice A r.sealed.length c) := bx 10 _ rfl
  have r10 := fun (w' : World) (h : Ext W w') => h.cellk x10
  clear bx
  have hSW := hS.ext hE
  have hbg := big_any W r A c hSW hc hr.n hr.m hr.ten hr.st hr.su
  obtain ⟨v, hv⟩ : ∃ v, bigG r = v := ⟨_, rfl⟩
  rw [hv] at hbg
  have hwo := works_any
  have hY : Ext W W := Ext.refl W
  obtain ⟨m, hbm⟩ : ∃ m, b.length = m := ⟨_, rfl⟩
  obtain ⟨k, hk⟩ : ∃ k, r.sealed.length = k := ⟨_, rfl⟩
  rw [hbm] at hSB hd hb ⊢
  cases v
  · by_cases hbb : 8192 < m
    · rw [hk] at hW x10 r10 hbg ⊢
      go_enter Tryd.func5, Tryd.ntmps5
      go_upto_region 1 with fail
      rw [← hW]
      clear hW
      go_wp2_with (first | (go_at_call 9; (with_reducible refine hbg.mono ?_); rintro e w1 ⟨rfl, hE1⟩) | (go_at_call 10; (with_reducible refine (hwo _).mono ?_); rintro e w2 ⟨rfl, hE2⟩))
      go_ret
      exact ⟨rfl, (hE.trans hE1).trans hE2⟩
    · have hbI : decide ((8192 : Int) < (m : Int)) = false := by simp; omega
      have hnb : ¬ BigR r := by unfold bigG at hv; exact of_decide_eq_false hv
      have hok := bigR_not hnb hr.ints
      obtain ⟨⟨r2, v2⟩, hg2⟩ : ∃ p, getG b = p := ⟨_, rfl⟩
      have H2 := Lib.hid hg2
      have hck := fun (w' : World) (h : Ext W w') => check_any w' r A c (hSW.ext h) hc (by have := hok.n; omega) (fun x hx => by have := hok.m x hx; omega) (by have := hok.ten; omega) (by have := hok.st; omega) (by have := hok.su; omega)
      by_cases hz : checkG r = 0
      · have hpu := fun (w' : World) (h : Ext W w') => put_yes w' r hok hz A c (hSW.ext h) hc
        have hL := recB_len hok
        have hgb := fun (w' : World) A1 n1 c1 h1 h2 h3 h4 => getq_any w' A1 n1 c1 (recB r) h1 h2 h3 h4 r 0 (get_back r hz hr.ints)
        have hss := fun (w' : World) n1 hn1 A1 A2 c1 c2 h1 h2 h3 h4 => same_self w' r hok n1 hn1 A1 A2 c1 c2 h1 h2 h3 h4
        rw [hz] at hck
        rw [hk] at hW x10 r10 hbg hck hpu hc hSW ⊢
        have HK := Lib.hid hk
        clear hS hv hg2 hk
        go_enter Tryd.func5, Tryd.ntmps5
        go_upto_region 1 with fail
        rw [← hW]
        clear hW
        go_upto_region 4 with (first | (go_at_call 9; (with_reducible refine hbg.mono ?_); rintro e w1 ⟨rfl, hE1⟩) | (go_at_call 12; (with_reducible refine (hpu _ hE1).mono ?_); rintro e w2 ⟨A2, n2, c2, rfl, hn2, hc2, hS2, hE2⟩; have hX2 := hE1.trans hE2))
        have hL2 : n2 ≤ 4294967296 := by omega
        have HN2 := Lib.hid hn2
        clear hn2 hL hpu hbg
        go_upto_region 7 with (go_at_call 14; (with_reducible refine (hck _ hX2).mono ?_); rintro e w3 ⟨rfl, hE3⟩; have hX3 := hX2.trans hE3)
        have hS3 := hS2.ext hE3
        clear hck
        go_upto_region 10 with (first | (go_at_call 20; (with_reducible refine (hgb _ _ _ _ HN2.out hS3 hc2 hL2).mono ?_); rintro e w4 ⟨A4, n4, c4, rfl, hn4, hc4, hS4, hE4⟩; obtain rfl : k = n4 := HK.out.symm.trans hn4; have hXb := (hX3.trans hE4).trans ((Ext.refl w4).alloc (.cells #[.string r.ten, .int .i64 r.clock, .int .i64 r.kind, .int .i64 r.code, .int .i64 r.id, .string r.st, .string r.su, .int .i64 r.slot, .int .i64 r.uses, .int .i64 r.num, .slice A4 k c4] 25)); have hS5 := hS4.ext ((Ext.refl w4).alloc (.cells #[.string r.ten, .int .i64 r.clock, .int .i64 r.kind, .int .i64 r.code, .int .i64 r.id, .string r.st, .string r.su, .int .i64 r.slot, .int .i64 r.uses, .int .i64 r.num, .slice A4 k c4] 25))) | (go_at_call 18; (with_reducible refine (hss _ _ HK.out _ _ _ _ hS5 hc4 (hSW.ext hXb) hc).mono ?_); rintro e w6 ⟨rfl, hE6⟩; have hX6 := hXb.trans hE6))
        clear hgb hss hS2 hS3
        by_cases hz2 : v2 = 0
        · subst hz2
          obtain ⟨h2c, h2b, h2f⟩ := get_some H2.out
          have h2ok := h2f.ok
          have hge := fun (w' : World) (h : Ext W w') => getq_any w' B m d b hbm ((hSB.ext hE).ext h) hd (by omega) r2 0 H2.out
          go_upto_region 11 with (go_at_call 20; (with_reducible refine (hge _ hX6).mono ?_); rintro e w7 ⟨A7, n7, c7, rfl, hn7, hc7, hS7, hE7⟩)
          subst hn7
          obtain ⟨V7, hV7, hEV7, -⟩ := box1 w7 #[.string r2.ten, .int .i64 r2.clock, .int .i64 r2.kind, .int .i64 r2.code, .int .i64 r2.id, .string r2.st, .string r2.su, .int .i64 r2.slot, .int .i64 r2.uses, .int .i64 r2.num, .slice A7 r2.sealed.length c7] 25
          have D7 : Blk V7 w7.heap.size 25 #[.string r2.ten, .int .i64 r2.clock, .int .i64 r2.kind, .int .i64 r2.code, .int .i64 r2.id, .string r2.st, .string r2.su, .int .i64 r2.slot, .int .i64 r2.uses, .int .i64 r2.num, .slice A7 r2.sealed.length c7] := by rw [hV7]; exact Blk.new _ _ _
          rw [← hV7]
          have hSV := hS7.ext hEV7
          have hX7 := (hX6).trans (hE7.trans hEV7)
          have hpy := fun (w' : World) (h : Ext V7 w') => put_yes w' r2 h2ok h2c A7 c7 (hSV.ext h) hc7
          have hcy := fun (w' : World) (h : Ext V7 w') => check_any w' r2 A7 c7 (hSV.ext h) hc7 (by have := h2ok.n; omega) (fun x hx => by have := h2ok.m x hx; omega) (by have := h2ok.ten; omega) (by have := h2ok.st; omega) (by have := h2ok.su; omega)
          have hsb := fun (w' : World) A1 c1 h1 h2 (h : Ext W w') => sameBytes_any w' A1 c1 b h1 h2 (by omega) B d b ((by rw [hbm]; exact (hSB.ext hE).ext h)) (by rw [hbm]; exact hd)
          simp only [beq_self_eq_true] at hsb
          rw [h2b] at hpy
          rw [hbm] at hsb hpy
          rw [h2c] at hcy
          generalize r2.sealed.length = n7 at *
          have gc0 := D7.cell 0 (v := .string r2.ten) rfl
          have gr0 := fun (w' : World) (h : Ext V7 w') => h.cellk gc0
          have gc1 := D7.cell 1 (v := .int .i64 r2.clock) rfl
          have gr1 := fun (w' : World) (h : Ext V7 w') => h.cellk gc1
          have gc2 := D7.cell 2 (v := .int .i64 r2.kind) rfl
          have gr2 := fun (w' : World) (h : Ext V7 w') => h.cellk gc2
          have gc3 := D7.cell 3 (v := .int .i64 r2.code) rfl
          have gr3 := fun (w' : World) (h : Ext V7 w') => h.cellk gc3
          have gc4 := D7.cell 4 (v := .int .i64 r2.id) rfl
          have gr4 := fun (w' : World) (h : Ext V7 w') => h.cellk gc4
          have gc5 := D7.cell 5 (v := .string r2.st) rfl
          have gr5 := fun (w' : World) (h : Ext V7 w') => h.cellk gc5
          have gc6 := D7.cell 6 (v := .string r2.su) rfl
          have gr6 := fun (w' : World) (h : Ext V7 w') => h.cellk gc6
          have gc7 := D7.cell 7 (v := .int .i64 r2.slot) rfl
          have gr7 := fun (w' : World) (h : Ext V7 w') => h.cellk gc7
          have gc8 := D7.cell 8 (v := .int .i64 r2.uses) rfl
          have gr8 := fun (w' : World) (h : Ext V7 w') => h.cellk gc8
          have gc9 := D7.cell 9 (v := .int .i64 r2.num) rfl
          have gr9 := fun (w' : World) (h : Ext V7 w') => h.cellk gc9
          have gc10 := D7.cell 10 (v := .slice A7 n7 c7) rfl
          have gr10 := fun (w' : World) (h : Ext V7 w') => h.cellk gc10
          have hYV : Ext V7 V7 := Ext.refl V7
          clear hV7 hge D7 h2b h2c
          go_wp2_with (first | (go_at_call 12; (with_reducible refine (hpy _ hYV).mono ?_); rintro e w8 ⟨A8, n8, c8, rfl, hn8, hc8, hS8, hE8⟩; subst hn8) | (go_at_call 14; (with_reducible refine (hcy _ hE8).mono ?_); rintro e w9 ⟨rfl, hE9⟩; have hS9 := hS8.ext hE9; have hX9 := hX7.trans (hE8.trans hE9)) | (go_at_call 16; (with_reducible refine (hsb _ _ _ hS9 hc8 hX9).mono ?_); rintro e w10 ⟨rfl, hE10⟩) | (go_at_call 10; (with_reducible refine (hwo _).mono ?_); rintro e w11 ⟨rfl, hE11⟩))
          go_ret
          exact ⟨rfl, hE.trans ((hX9.trans hE10).trans hE11)⟩
        · have hz2' : (v2 != 0) = true := by simpa using hz2
          obtain rfl := get_none H2.out hz2
          have hge := fun (w' : World) (h : Ext W w') => getq_any w' B m d b hbm ((hSB.ext hE).ext h) hd (by omega) zeroR v2 H2.out
          have hsz := same_zero
          dsimp only [zeroR] at hge
          go_upto_region 12 with (go_at_call 20; (with_reducible refine (hge _ hX6).mono ?_); rintro e w7 ⟨A7, n7, c7, rfl, hn7, hc7, hS7, hE7⟩; obtain rfl : 0 = n7 := hn7)
          have hX7 := (hX6).trans hE7
          clear hge
          go_wp2_with (first | (go_at_call 18; (with_reducible refine (hsz _ _ _).mono ?_); rintro e w10 ⟨rfl, hE10⟩) | (go_at_call 10; (with_reducible refine (hwo _).mono ?_); rintro e w11 ⟨rfl, hE11⟩))
          go_ret
          exact ⟨rfl, hE.trans (hX7.trans (((Ext.refl w7).alloc _).trans (hE10.trans hE11)))⟩
      · have hz' : (checkG r != 0) = true := by simpa using hz
        have hpu := fun (w' : World) (h : Ext W w') => put_nay w' r hok hz A c (hSW.ext h) hc
        obtain ⟨cv, hcv⟩ : ∃ v, checkG r = v := ⟨_, rfl⟩
        rw [hcv] at hck hpu hz hz'
        have hz3 : (cv == 0) = false := by simpa using hz
        rw [hk] at hW x10 r10 hbg hck hpu ⊢
        clear hS hv hg2 hk hcv hz
        go_enter Tryd.func5, Tryd.ntmps5
        go_upto_region 1 with fail
        rw [← hW]
        clear hW
        go_upto_region 4 with (first | (go_at_call 9; (with_reducible refine hbg.mono ?_); rintro e w1 ⟨rfl, hE1⟩) | (go_at_call 12; (with_reducible refine (hpu _ hE1).mono ?_); rintro e w2 ⟨rfl, hE2⟩; have hX2 := hE1.trans hE2))
        clear hpu hbg
        go_upto_region 10 with (go_at_call 14; (with_reducible refine (hck _ hX2).mono ?_); rintro e w3 ⟨rfl, hE3⟩; have hX3 := hX2.trans hE3)
        clear hck
        by_cases hz2 : v2 = 0
        · subst hz2
          obtain ⟨h2c, h2b, h2f⟩ := get_some H2.out
          have h2ok := h2f.ok
          have hge := fun (w' : World) (h : Ext W w') => getq_any w' B m d b hbm ((hSB.ext hE).ext h) hd (by omega) r2 0 H2.out
          go_upto_region 11 with (go_at_call 20; (with_reducible refine (hge _ hX3).mono ?_); rintro e w7 ⟨A7, n7, c7, rfl, hn7, hc7, hS7, hE7⟩)
          subst hn7
          obtain ⟨V7, hV7, hEV7, -⟩ := box1 w7 #[.string r2.ten, .int .i64 r2.clock, .int .i64 r2.kind, .int .i64 r2.code, .int .i64 r2.id, .string r2.st, .string r2.su, .int .i64 r2.slot, .int .i64 r2.uses, .int .i64 r2.num, .slice A7 r2.sealed.length c7] 25
          have D7 : Blk V7 w7.heap.size 25 #[.string r2.ten, .int .i64 r2.clock, .int .i64 r2.kind, .int .i64 r2.code, .int .i64 r2.id, .string r2.st, .string r2.su, .int .i64 r2.slot, .int .i64 r2.uses, .int .i64 r2.num, .slice A7 r2.sealed.length c7] := by rw [hV7]; exact Blk.new _ _ _
          rw [← hV7]
          have hSV := hS7.ext hEV7
          have hX7 := (hX3).trans (hE7.trans hEV7)
          have hpy := fun (w' : World) (h : Ext V7 w') => put_yes w' r2 h2ok h2c A7 c7 (hSV.ext h) hc7
          have hcy := fun (w' : World) (h : Ext V7 w') => check_any w' r2 A7 c7 (hSV.ext h) hc7 (by have := h2ok.n; omega) (fun x hx => by have := h2ok.m x hx; omega) (by have := h2ok.ten; omega) (by have := h2ok.st; omega) (by have := h2ok.su; omega)
          have hsb := fun (w' : World) A1 c1 h1 h2 (h : Ext W w') => sameBytes_any w' A1 c1 b h1 h2 (by omega) B d b ((by rw [hbm]; exact (hSB.ext hE).ext h)) (by rw [hbm]; exact hd)
          simp only [beq_self_eq_true] at hsb
          rw [h2b] at hpy
          rw [hbm] at hsb hpy
          rw [h2c] at hcy
          generalize r2.sealed.length = n7 at *
          have gc0 := D7.cell 0 (v := .string r2.ten) rfl
          have gr0 := fun (w' : World) (h : Ext V7 w') => h.cellk gc0
          have gc1 := D7.cell 1 (v := .int .i64 r2.clock) rfl
          have gr1 := fun (w' : World) (h : Ext V7 w') => h.cellk gc1
          have gc2 := D7.cell 2 (v := .int .i64 r2.kind) rfl
          have gr2 := fun (w' : World) (h : Ext V7 w') => h.cellk gc2
          have gc3 := D7.cell 3 (v := .int .i64 r2.code) rfl
          have gr3 := fun (w' : World) (h : Ext V7 w') => h.cellk gc3
          have gc4 := D7.cell 4 (v := .int .i64 r2.id) rfl
          have gr4 := fun (w' : World) (h : Ext V7 w') => h.cellk gc4
          have gc5 := D7.cell 5 (v := .string r2.st) rfl
          have gr5 := fun (w' : World) (h : Ext V7 w') => h.cellk gc5
          have gc6 := D7.cell 6 (v := .string r2.su) rfl
          have gr6 := fun (w' : World) (h : Ext V7 w') => h.cellk gc6
          have gc7 := D7.cell 7 (v := .int .i64 r2.slot) rfl
          have gr7 := fun (w' : World) (h : Ext V7 w') => h.cellk gc7
          have gc8 := D7.cell 8 (v := .int .i64 r2.uses) rfl
          have gr8 := fun (w' : World) (h : Ext V7 w') => h.cellk gc8
          have gc9 := D7.cell 9 (v := .int .i64 r2.num) rfl
          have gr9 := fun (w' : World) (h : Ext V7 w') => h.cellk gc9
          have gc10 := D7.cell 10 (v := .slice A7 n7 c7) rfl
          have gr10 := fun (w' : World) (h : Ext V7 w') => h.cellk gc10
          have hYV : Ext V7 V7 := Ext.refl V7
          clear hV7 hge D7 h2b h2c
          go_wp2_with (first | (go_at_call 12; (with_reducible refine (hpy _ hYV).mono ?_); rintro e w8 ⟨A8, n8, c8, rfl, hn8, hc8, hS8, hE8⟩; subst hn8) | (go_at_call 14; (with_reducible refine (hcy _ hE8).mono ?_); rintro e w9 ⟨rfl, hE9⟩; have hS9 := hS8.ext hE9; have hX9 := hX7.trans (hE8.trans hE9)) | (go_at_call 16; (with_reducible refine (hsb _ _ _ hS9 hc8 hX9).mono ?_); rintro e w10 ⟨rfl, hE10⟩) | (go_at_call 10; (with_reducible refine (hwo _).mono ?_); rintro e w11 ⟨rfl, hE11⟩))
          go_ret
          exact ⟨rfl, hE.trans ((hX9.trans hE10).trans hE11)⟩
        · have hz2' : (v2 != 0) = true := by simpa using hz2
          obtain rfl := get_none H2.out hz2
          have hge := fun (w' : World) (h : Ext W w') => getq_any w' B m d b hbm ((hSB.ext hE).ext h) hd (by omega) zeroR v2 H2.out
          have hsz := same_zero
          dsimp only [zeroR] at hge
          go_upto_region 12 with (go_at_call 20; (with_reducible refine (hge _ hX3).mono ?_); rintro e w7 ⟨A7, n7, c7, rfl, hn7, hc7, hS7, hE7⟩; obtain rfl : 0 = n7 := hn7)
          have hX7 := (hX3).trans hE7
          clear hge
          go_wp2_with (first | (go_at_call 18; (with_reducible refine (hsz _ _ _).mono ?_); rintro e w10 ⟨rfl, hE10⟩) | (go_at_call 10; (with_reducible refine (hwo _).mono ?_); rintro e w11 ⟨rfl, hE11⟩))
          go_ret
          exact ⟨rfl, hE.trans (hX7.trans (((Ext.refl w7).alloc _).trans (hE10.trans hE11)))⟩
  · rw [hk] at hW x10 r10 hbg ⊢
    go_enter Tryd.func5, Tryd.ntmps5
    go_upto_region 1 with fail
    rw [← hW]
    clear hW
    go_wp2_with (first | (go_at_call 9; (with_reducible refine hbg.mono ?_); rintro e w1 ⟨rfl, hE1⟩) | (go_at_call 10; (with_reducible refine (hwo _).mono ?_); rintro e w2 ⟨rfl, hE2⟩))
    go_ret
    exact ⟨rfl, (hE.trans hE1).trans hE2⟩
end Go.Proofs.YtkmjnbfhfjafpaaDoor
