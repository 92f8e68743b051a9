/- The law RecordFields, walked. -/
import Derived.Test.YtkmjnbfhfjafpaaDoorRecCut
import Derived.Test.YtkmjnbfhfjafpaaDoorRecFacts
import Derived.Test.YtkmjnbfhfjafpaaDoorTreeThree
namespace Go.Proofs.YtkmjnbfhfjafpaaDoor.Three
set_option linter.unusedVariables false
set_option linter.unusedSimpArgs false
open Go.RowKit
theorem key_intro {p : Prop} (F G : Nat → Nat → Nat → World → Prop) (h : (∀ a b c w, F a b c w → G a b c w) → p) (k : ∀ a b c w, F a b c w → G a b c w) : p := h k
/-- Three copies of a record, each in a block of its own. -/
structure Three3 (W : World) (cs : Array Value) (a b c : Nat) (w : World) : Prop where
  ab : a ≠ b
  ac : a ≠ c
  bc : b ≠ c
  ha : W.heap.size ≤ a
  hb : W.heap.size ≤ b
  hc : W.heap.size ≤ c
  ka : Blk w a 25 cs
  kb : Blk w b 25 cs
  kc : Blk w c 25 cs
  ext : Ext W w
theorem three_mk {W wd : World} (hE : Ext W wd) (cs : Array Value) : Three3 W cs wd.heap.size (wd.heap.size + 1) (wd.heap.size + 1 + 1) (((wd.alloc (.cells cs 25)).alloc (.cells cs 25)).alloc (.cells cs 25)) := by
  have h1 := Blk.new wd 25 cs
  have h2 := Blk.new (wd.alloc (.cells cs 25)) 25 cs
  have h3 := Blk.new ((wd.alloc (.cells cs 25)).alloc (.cells cs 25)) 25 cs
  have e2 : (wd.alloc (.cells cs 25)).heap.size = wd.heap.size + 1 := by simp
  have e3 : ((wd.alloc (.cells cs 25)).alloc (.cells cs 25)).heap.size = wd.heap.size + 1 + 1 := by simp
  rw [e2] at h2
  rw [e3] at h3
  have := hE.le
  exact ⟨by omega, by omega, by omega, this, by omega, by omega, (h1.alloc _).alloc _, h2.alloc _, h3, ((hE.alloc _).alloc _).alloc _⟩
theorem Three3.swap {W w : World} {cs : Array Value} {a b c : Nat} (h : Three3 W cs a b c w) : Three3 W cs b a c w := ⟨h.ab.symm, h.bc, h.ac, h.hb, h.ha, h.hc, h.kb, h.ka, h.kc, h.ext⟩
theorem Three3.rot {W w : World} {cs : Array Value} {a b c : Nat} (h : Three3 W cs a b c w) : Three3 W cs b c a w := ⟨h.bc, h.ab.symm, h.ac.symm, h.hb, h.hc, h.ha, h.kb, h.kc, h.ka, h.ext⟩
set_option maxHeartbeats 9000000 in
set_option maxRecDepth 100000 in
theorem fields_walk (w : World) (r : Rec) (A : Option Addr) (c : Nat) (hS : rdB.Sl w A r.sealed.length r.sealed) (hc : r.sealed.length ≤ c) (hr : RecIn r) (n x : Int) (hn : intOk n) (hx : intOk x) :
    Calls Tryd.prog 7 #[.agg #[.string r.ten, .int .i64 r.clock, .int .i64 r.kind, .int .i64 r.code, .int .i64 r.id, .string r.st, .string r.su, .int .i64 r.slot, .int .i64 r.uses, .int .i64 r.num, .slice A r.sealed.length c], .int .i64 n, .int .i64 x] w fun e w' => e = .returned (.bool true) ∧ Ext w w' := by
  obtain ⟨W, hW, hE, bx⟩ := box1 w #[.string r.ten, .int .i64 r.clock, .int .i64 r.kind, .int .i64 r.code, .int .i64 r.id, .string r.st, .string r.su, .int .i64 r.slot, .int .i64 r.uses, .int .i64 r.num, .slice A r.sealed.length c] 25
  have x0 : W.cell? ⟨w.heap.size, 0, none⟩ = some (.string r.ten) := bx 0 _ rfl
  have r0 := fun (w' : World) (h : Ext W w') => h.cellk x0
  have x1 : W.cell? ⟨w.heap.size, 1, none⟩ = some (.int .i64 r.clock) := bx 1 _ rfl
  have r1 := fun (w' : World) (h : Ext W w') => h.cellk x1
  have x2 : W.cell? ⟨w.heap.size, 2, none⟩ = some (.int .i64 r.kind) := bx 2 _ rfl
  have r2 := fun (w' : World) (h : Ext W w') => h.cellk x2
  have x3 : W.cell? ⟨w.heap.size, 3, none⟩ = some (.int .i64 r.code) := bx 3 _ rfl
  have r3 := fun (w' : World) (h : Ext W w') => h.cellk x3
  have x4 : W.cell? ⟨w.heap.size, 4, none⟩ = some (.int .i64 r.id) := bx 4 _ rfl
  have r4 := fun (w' : World) (h : Ext W w') => h.cellk x4
  have x5 : W.cell? ⟨w.heap.size, 5, none⟩ = some (.string r.st) := bx 5 _ rfl
  have r5 := fun (w' : World) (h : Ext W w') => h.cellk x5
  have x6 : W.cell? ⟨w.heap.size, 6, none⟩ = some (.string r.su) := bx 6 _ rfl
  have r6 := fun (w' : World) (h : Ext W w') => h.cellk x6
  have x7 : W.cell? ⟨w.heap.size, 7, none⟩ = some (.int .i64 r.slot) := bx 7 _ rfl
  have r7 := fun (w' : World) (h : Ext W w') => h.cellk x7
  have x8 : W.cell? ⟨w.heap.size, 8, none⟩ = some (.int .i64 r.uses) := bx 8 _ rfl
  have r8 := fun (w' : World) (h : Ext W w') => h.cellk x8
  have x9 : W.cell? ⟨w.heap.size, 9, none⟩ = some (.int .i64 r.num) := bx 9 _ rfl
  have r9 := fun (w' : World) (h : Ext W w') => h.cellk x9
  have x10 : W.cell? ⟨w.heap.size, 10, none⟩ = some (.slice A r.sealed.length c) := bx 10 _ rfl
  have r10 := fun (w' : World) (h : Ext W w') => h.cellk x10
  clear bx
  have hSW := hS.ext hE
  have hbg := big_any W r A c hSW hc hr.n hr.m hr.ten hr.st hr.su
  obtain ⟨v, hv⟩ : ∃ v, bigG r = v := ⟨_, rfl⟩
  rw [hv] at hbg
  have hwo := works_any
  have hY : Ext W W := Ext.refl W
  obtain ⟨k, hk⟩ : ∃ k, r.sealed.length = k := ⟨_, rfl⟩
  cases v
  · have hnb : ¬ BigR r := by unfold bigG at hv; exact of_decide_eq_false hv
    have hok := bigR_not hnb hr.ints
    have hck := fun (w' : World) (h : Ext W w') => check_any w' r A c (hSW.ext h) hc (by have := hok.n; omega) (fun x hx => by have := hok.m x hx; omega) (by have := hok.ten; omega) (by have := hok.st; omega) (by have := hok.su; omega)
    by_cases hz : checkG r = 0
    · have hpk := fun w' => pickN n 64 hn (by decide) (by decide) w'
      have hpx := fun w' => pickN x 25 hx (by decide) (by decide) w'
      rw [show ((64 : Nat) : Int) = 64 from rfl] at hpk
      rw [show ((25 : Nat) : Int) = 25 from rfl] at hpx
      rw [hz] at hck
      rw [hk] at hW x10 r10 hbg hck hc hSW ⊢
      have HZ := Lib.hid hz
      have HK := Lib.hid hk
      clear hS hv hk hz hnb
      go_enter Tryd.func7, Tryd.ntmps7
      go_upto_region 1 with fail
      rw [← hW]
      clear hW
      go_upto_region 5 with (first | (go_at_call 9; (with_reducible refine hbg.mono ?_); rintro e w1 ⟨rfl, hE1⟩) | (go_at_call 14; (with_reducible refine (hck _ hE1).mono ?_); rintro e w2 ⟨rfl, hE2⟩; have hX2 := hE1.trans hE2) | (go_at_call 24; (with_reducible refine (hpk _).mono ?_); rintro e w3 ⟨i, rfl, hi, rfl⟩; have hi1 : 1 ≤ 1 + (i : Int) := by omega))
      by_cases hc0 : r.code = 0
      · have hb0 : (r.code == 0) = true := by simpa using hc0
        have HC0 := Lib.hid hc0
        clear hc0
        by_cases hk1 : r.kind = 1
        · have hb1 : (r.kind == 1) = true := by simpa using hk1
          have hb5 : (r.kind == 5) = false := by rw [hk1]; rfl
          have hb6 : (r.kind == 6) = false := by rw [hk1]; rfl
          have HQ := Lib.hid hk1
          clear hk1
          go_upto_region 7 with fail
          refine wp_region_noPanic ?_
          refine tr_start (.y 0 (.y 1 (.y 2 (.three 3 4 5 (.two 4 5 (.e 5 (.e 6 (.e 7 (.e 8 .nil)))) (.e 4 (.e 6 (.e 7 (.e 8 .nil))))) (.two 3 5 (.e 5 (.e 6 (.e 7 (.e 8 .nil)))) (.e 3 (.e 6 (.e 7 (.e 8 .nil))))) (.two 3 4 (.e 4 (.e 6 (.e 7 (.e 8 .nil)))) (.e 3 (.e 6 (.e 7 (.e 8 .nil))))))))) (fun w' => Ext W w') (by kernel_rfl) (by kernel_rfl) (fun _ _ _ _ _ h => h) (by (repeat (first | assumption | exact Ext.refl _ | refine Ext.drew ?_ | refine Ext.alloc ?_ _ | refine Ext.drewN ?_ _ | refine Ext.trans ?_ (by assumption)))) ?_
          have hYd : Ext W w2.drew := by (repeat (first | assumption | exact Ext.refl _ | refine Ext.drew ?_ | refine Ext.alloc ?_ _ | refine Ext.drewN ?_ _ | refine Ext.trans ?_ (by assumption)))
          generalize w2.drew = wd at hYd ⊢
          iterate 3 (first | (refine tr_off (a' := ?_) rfl rfl (by rfl) ?_ ?_; rotate_left 1; (· simp only [Act.put, List.setIfInBounds_toArray, List.set_cons_zero, List.set_cons_succ]; rfl)) | (refine tr_y (v := ?_) (a' := ?_) rfl rfl (by rfl) (fun w' hw' => ?_) ?_ ?_; rotate_left 2; (· go_simp; with_reducible rfl); (· simp only [Act.put, List.setIfInBounds_toArray, List.set_cons_zero, List.set_cons_succ]; rfl)))
          apply key_intro (F := Three3 W #[.string r.ten, .int .i64 r.clock, .int .i64 r.kind, .int .i64 r.code, .int .i64 r.id, .string r.st, .string r.su, .int .i64 r.slot, .int .i64 r.uses, .int .i64 r.num, .slice A k c])
          case h =>
            intro key
            have hT := three_mk hYd #[.string r.ten, .int .i64 r.clock, .int .i64 r.kind, .int .i64 r.code, .int .i64 r.id, .string r.st, .string r.su, .int .i64 r.slot, .int .i64 r.uses, .int .i64 r.num, .slice A k c]
            refine tr_three ?_ ?_ ?_
            all_goals (refine tr_value (v := ?_) (w1 := ?_) (a' := ?_) rfl rfl (by rfl) ?_ ?_ ?_ ?_; rotate_left 3; (· go_simp; refine ⟨?_, ?_⟩ <;> with_reducible rfl); (· exact hYd.alloc _); (· simp only [Act.put, List.setIfInBounds_toArray, List.set_cons_zero, List.set_cons_succ]; rfl))
            all_goals refine tr_two ?_ ?_
            all_goals (refine tr_value (v := ?_) (w1 := ?_) (a' := ?_) rfl rfl (by rfl) ?_ ?_ ?_ ?_; rotate_left 3; (· go_simp; refine ⟨?_, ?_⟩ <;> with_reducible rfl); (· exact (hYd.alloc _).alloc _); (· simp only [Act.put, List.setIfInBounds_toArray, List.set_cons_zero, List.set_cons_succ]; rfl))
            all_goals (refine tr_value (v := ?_) (w1 := ?_) (a' := ?_) rfl rfl (by rfl) ?_ ?_ ?_ ?_; rotate_left 3; (· go_simp; refine ⟨?_, ?_⟩ <;> with_reducible rfl); (· exact ((hYd.alloc _).alloc _).alloc _); (· simp only [Act.put, List.setIfInBounds_toArray, List.set_cons_zero, List.set_cons_succ]; rfl))
            all_goals (refine tr_store (w1 := ?_) rfl (by rfl) rfl ?_ ?_ ?_; rotate_left 1; (· go_simp; with_reducible rfl); (· exact ((hYd.alloc _).alloc _).alloc _))
            all_goals (refine tr_store (w1 := ?_) rfl (by rfl) rfl ?_ ?_ ?_; rotate_left 1; (· go_simp; with_reducible rfl); (· exact ((hYd.alloc _).alloc _).alloc _))
            all_goals (refine tr_store (w1 := ?_) rfl (by rfl) rfl ?_ ?_ ?_; rotate_left 1; (· go_simp; with_reducible rfl); (· exact ((hYd.alloc _).alloc _).alloc _))
            all_goals refine tr_end (NoPanic.normal ?_)
            all_goals (generalize wd.heap.size + 1 + 1 = p3 at hT ⊢; generalize wd.heap.size + 1 = p2 at hT ⊢; generalize wd.heap.size = p1 at hT ⊢; generalize ((wd.alloc (.cells #[.string r.ten, .int .i64 r.clock, .int .i64 r.kind, .int .i64 r.code, .int .i64 r.id, .string r.st, .string r.su, .int .i64 r.slot, .int .i64 r.uses, .int .i64 r.num, .slice A k c] 25)).alloc (.cells #[.string r.ten, .int .i64 r.clock, .int .i64 r.kind, .int .i64 r.code, .int .i64 r.id, .string r.st, .string r.su, .int .i64 r.slot, .int .i64 r.uses, .int .i64 r.num, .slice A k c] 25)).alloc (.cells #[.string r.ten, .int .i64 r.clock, .int .i64 r.kind, .int .i64 r.code, .int .i64 r.id, .string r.st, .string r.su, .int .i64 r.slot, .int .i64 r.uses, .int .i64 r.num, .slice A k c] 25) = w3 at hT ⊢)
            all_goals first | exact key p1 p2 p3 w3 hT | exact key p2 p1 p3 w3 hT.swap | exact key p2 p3 p1 w3 hT.rot | exact key p3 p1 p2 w3 hT.rot.rot | exact key p3 p2 p1 w3 hT.rot.swap | exact key p1 p3 p2 w3 hT.rot.rot.swap
          intro p1 p2 p3 w3 hT
          have g1 := hT.ka.cell 7 (v := .int .i64 r.slot) rfl
          have g2 := hT.kb.cell 9 (v := .int .i64 r.num) rfl
          have g3 := hT.kc.cell 8 (v := .int .i64 r.uses) rfl
          have f1 := hT.ka.frozen 7
          have f2 := hT.kb.frozen 9
          have f3 := hT.kc.frozen 8
          go_upto_region 11 with fail
          have Ka := (((hT.ka.set_ 7 (.int .i64 (1 + (i : Int)))).far (p := ⟨p2, 9, none⟩) hT.ab (.int .i64 (1 + (i : Int)))).far (p := ⟨p3, 8, none⟩) hT.ac (.int .i64 (1 + (i : Int))))
          have Kb := (((hT.kb.far (p := ⟨p1, 7, none⟩) hT.ab.symm (.int .i64 (1 + (i : Int)))).set_ 9 (.int .i64 (1 + (i : Int)))).far (p := ⟨p3, 8, none⟩) hT.bc (.int .i64 (1 + (i : Int))))
          have Kc := (((hT.kc.far (p := ⟨p1, 7, none⟩) hT.ac.symm (.int .i64 (1 + (i : Int)))).far (p := ⟨p2, 9, none⟩) hT.bc.symm (.int .i64 (1 + (i : Int)))).set_ 8 (.int .i64 (1 + (i : Int))))
          simp only [List.setIfInBounds_toArray, List.set_cons_zero, List.set_cons_succ] at Ka Kb Kc
          have hX4 : Ext W _ := ((hT.ext.set (p := ⟨p1, 7, none⟩) hT.ha (.int .i64 (1 + (i : Int)))).set (p := ⟨p2, 9, none⟩) hT.hb (.int .i64 (1 + (i : Int)))).set (p := ⟨p3, 8, none⟩) hT.hc (.int .i64 (1 + (i : Int)))
          generalize ((w3.setCell ⟨p1, 7, none⟩ (.int .i64 (1 + (i : Int)))).setCell ⟨p2, 9, none⟩ (.int .i64 (1 + (i : Int)))).setCell ⟨p3, 8, none⟩ (.int .i64 (1 + (i : Int))) = w4 at Ka Kb Kc hX4 ⊢
          clear g1 g2 g3 f1 f2 f3 hT hYd
          have ac0 := Ka.cell 0 (v := .string r.ten) rfl
          have ar0 := fun (w' : World) (h : Ext w4 w') => h.cellk ac0
          have ac1 := Ka.cell 1 (v := .int .i64 r.clock) rfl
          have ar1 := fun (w' : World) (h : Ext w4 w') => h.cellk ac1
          have ac2 := Ka.cell 2 (v := .int .i64 r.kind) rfl
          have ar2 := fun (w' : World) (h : Ext w4 w') => h.cellk ac2
          have ac3 := Ka.cell 3 (v := .int .i64 r.code) rfl
          have ar3 := fun (w' : World) (h : Ext w4 w') => h.cellk ac3
          have ac4 := Ka.cell 4 (v := .int .i64 r.id) rfl
          have ar4 := fun (w' : World) (h : Ext w4 w') => h.cellk ac4
          have ac5 := Ka.cell 5 (v := .string r.st) rfl
          have ar5 := fun (w' : World) (h : Ext w4 w') => h.cellk ac5
          have ac6 := Ka.cell 6 (v := .string r.su) rfl
          have ar6 := fun (w' : World) (h : Ext w4 w') => h.cellk ac6
          have ac7 := Ka.cell 7 (v := .int .i64 (1 + (i : Int))) rfl
          have ar7 := fun (w' : World) (h : Ext w4 w') => h.cellk ac7
          have ac8 := Ka.cell 8 (v := .int .i64 r.uses) rfl
          have ar8 := fun (w' : World) (h : Ext w4 w') => h.cellk ac8
          have ac9 := Ka.cell 9 (v := .int .i64 r.num) rfl
          have ar9 := fun (w' : World) (h : Ext w4 w') => h.cellk ac9
          have ac10 := Ka.cell 10 (v := .slice A k c) rfl
          have ar10 := fun (w' : World) (h : Ext w4 w') => h.cellk ac10
          have bc0 := Kb.cell 0 (v := .string r.ten) rfl
          have br0 := fun (w' : World) (h : Ext w4 w') => h.cellk bc0
          have bc1 := Kb.cell 1 (v := .int .i64 r.clock) rfl
          have br1 := fun (w' : World) (h : Ext w4 w') => h.cellk bc1
          have bc2 := Kb.cell 2 (v := .int .i64 r.kind) rfl
          have br2 := fun (w' : World) (h : Ext w4 w') => h.cellk bc2
          have bc3 := Kb.cell 3 (v := .int .i64 r.code) rfl
          have br3 := fun (w' : World) (h : Ext w4 w') => h.cellk bc3
          have bc4 := Kb.cell 4 (v := .int .i64 r.id) rfl
          have br4 := fun (w' : World) (h : Ext w4 w') => h.cellk bc4
          have bc5 := Kb.cell 5 (v := .string r.st) rfl
          have br5 := fun (w' : World) (h : Ext w4 w') => h.cellk bc5
          have bc6 := Kb.cell 6 (v := .string r.su) rfl
          have br6 := fun (w' : World) (h : Ext w4 w') => h.cellk bc6
          have bc7 := Kb.cell 7 (v := .int .i64 r.slot) rfl
          have br7 := fun (w' : World) (h : Ext w4 w') => h.cellk bc7
          have bc8 := Kb.cell 8 (v := .int .i64 r.uses) rfl
          have br8 := fun (w' : World) (h : Ext w4 w') => h.cellk bc8
          have bc9 := Kb.cell 9 (v := .int .i64 (1 + (i : Int))) rfl
          have br9 := fun (w' : World) (h : Ext w4 w') => h.cellk bc9
          have bc10 := Kb.cell 10 (v := .slice A k c) rfl
          have br10 := fun (w' : World) (h : Ext w4 w') => h.cellk bc10
          have dc0 := Kc.cell 0 (v := .string r.ten) rfl
          have dr0 := fun (w' : World) (h : Ext w4 w') => h.cellk dc0
          have dc1 := Kc.cell 1 (v := .int .i64 r.clock) rfl
          have dr1 := fun (w' : World) (h : Ext w4 w') => h.cellk dc1
          have dc2 := Kc.cell 2 (v := .int .i64 r.kind) rfl
          have dr2 := fun (w' : World) (h : Ext w4 w') => h.cellk dc2
          have dc3 := Kc.cell 3 (v := .int .i64 r.code) rfl
          have dr3 := fun (w' : World) (h : Ext w4 w') => h.cellk dc3
          have dc4 := Kc.cell 4 (v := .int .i64 r.id) rfl
          have dr4 := fun (w' : World) (h : Ext w4 w') => h.cellk dc4
          have dc5 := Kc.cell 5 (v := .string r.st) rfl
          have dr5 := fun (w' : World) (h : Ext w4 w') => h.cellk dc5
          have dc6 := Kc.cell 6 (v := .string r.su) rfl
          have dr6 := fun (w' : World) (h : Ext w4 w') => h.cellk dc6
          have dc7 := Kc.cell 7 (v := .int .i64 r.slot) rfl
          have dr7 := fun (w' : World) (h : Ext w4 w') => h.cellk dc7
          have dc8 := Kc.cell 8 (v := .int .i64 (1 + (i : Int))) rfl
          have dr8 := fun (w' : World) (h : Ext w4 w') => h.cellk dc8
          have dc9 := Kc.cell 9 (v := .int .i64 r.num) rfl
          have dr9 := fun (w' : World) (h : Ext w4 w') => h.cellk dc9
          have dc10 := Kc.cell 10 (v := .slice A k c) rfl
          have dr10 := fun (w' : World) (h : Ext w4 w') => h.cellk dc10
          have hY4 : Ext w4 w4 := Ext.refl w4
          have hc1 := fun (w' : World) (h : Ext W w') => check_any w' { r with slot := (1 + (i : Int)) } A c (by show rdB.Sl w' A r.sealed.length r.sealed; rw [HK.out]; exact hSW.ext h) (by show r.sealed.length ≤ c; rw [HK.out]; exact hc) (by have := hok.n; exact Nat.le_trans this (by decide)) (fun x hx => by have := hok.m x hx; omega) (Nat.le_trans hok.ten (by decide)) (Nat.le_trans hok.st (by decide)) (Nat.le_trans hok.su (by decide))
          dsimp only at hc1
          rw [HK.out] at hc1
          obtain ⟨ca, hca⟩ : ∃ v, checkG { r with slot := (1 + (i : Int)) } = v := ⟨_, rfl⟩
          rw [hca] at hc1
          have hc2 := fun (w' : World) (h : Ext W w') => check_any w' { r with num := (1 + (i : Int)) } A c (by show rdB.Sl w' A r.sealed.length r.sealed; rw [HK.out]; exact hSW.ext h) (by show r.sealed.length ≤ c; rw [HK.out]; exact hc) (by have := hok.n; exact Nat.le_trans this (by decide)) (fun x hx => by have := hok.m x hx; omega) (Nat.le_trans hok.ten (by decide)) (Nat.le_trans hok.st (by decide)) (Nat.le_trans hok.su (by decide))
          dsimp only at hc2
          rw [HK.out] at hc2
          obtain ⟨cb, hcb⟩ : ∃ v, checkG { r with num := (1 + (i : Int)) } = v := ⟨_, rfl⟩
          rw [hcb] at hc2
          have hc3 := fun (w' : World) (h : Ext W w') => check_any w' { r with uses := (1 + (i : Int)) } A c (by show rdB.Sl w' A r.sealed.length r.sealed; rw [HK.out]; exact hSW.ext h) (by show r.sealed.length ≤ c; rw [HK.out]; exact hc) (by have := hok.n; exact Nat.le_trans this (by decide)) (fun x hx => by have := hok.m x hx; omega) (Nat.le_trans hok.ten (by decide)) (Nat.le_trans hok.st (by decide)) (Nat.le_trans hok.su (by decide))
          dsimp only at hc3
          rw [HK.out] at hc3
          obtain ⟨cc, hcc⟩ : ∃ v, checkG { r with uses := (1 + (i : Int)) } = v := ⟨_, rfl⟩
          rw [hcc] at hc3
          have q1 : (ca == 0) = true := by have hc0 := HC0.out; have hq := HQ.out; rw [Bool.eq_iff_iff, beq_iff_eq, ← hca, set_slot HZ.out _ (by omega) (by omega)]; simp [appR, hc0, hq]
          have q2 : (cb == 0) = false := by have hc0 := HC0.out; have hq := HQ.out; rw [Bool.eq_iff_iff, beq_iff_eq, ← hcb, set_num HZ.out _ (by omega) (by omega)]; simp [numR, hc0, hq]
          have q3 : (cc == 0) = true := by have hc0 := HC0.out; have hq := HQ.out; rw [Bool.eq_iff_iff, beq_iff_eq, ← hcc, set_uses HZ.out _ (by omega) (by omega)]; simp [appR, hc0, hq]
          have q4 : decide ((0 : Int) < (k : Int)) = true := by have hc0 := HC0.out; have hq := HQ.out; rw [Bool.eq_iff_iff, decide_eq_true_iff, ← HK.out, Int.natCast_pos, ← app_len HZ.out]; simp [appR, hc0, hq]
          have q5 : decide (0 < k) = true := by rw [← q4]; simp
          clear hca hcb hcc
          go_upto_region 13 with (first | (go_at_call 14; (with_reducible refine (hc1 _ hX4).mono ?_); rintro e w5 ⟨rfl, hE5⟩; have hX5 := hX4.trans hE5) | (go_at_call 14; (with_reducible refine (hc2 _ hX5).mono ?_); rintro e w6 ⟨rfl, hE6⟩; have hX6 := hX5.trans hE6; have hZ6 := hE5.trans hE6) | (go_at_call 14; (with_reducible refine (hc3 _ hX6).mono ?_); rintro e w7 ⟨rfl, hE7⟩; have hX7 := hX6.trans hE7))
          obtain ⟨V, hV, hEV, -⟩ := box1 w7 #[.string r.ten, .int .i64 r.clock, .int .i64 r.kind, .int .i64 r.code, .int .i64 r.id, .string r.st, .string r.su, .int .i64 r.slot, .int .i64 r.uses, .int .i64 r.num, .slice A k c] 25
          have Kd : Blk V w7.heap.size 25 #[.string r.ten, .int .i64 r.clock, .int .i64 r.kind, .int .i64 r.code, .int .i64 r.id, .string r.st, .string r.su, .int .i64 r.slot, .int .i64 r.uses, .int .i64 r.num, .slice A k c] := by rw [hV]; exact Blk.new _ _ _
          have hX7l := hX7.le
          have hXV := hX7.trans hEV
          clear Ka Kb Kc hX4 hX5 hX6 hZ6 hc1 hc2 hc3 q1 q2 q3 q4 q5 hY4 hE5 hE6 hE7
          clear ac0 ac1 ac2 ac3 ac4 ac5 ac6 ac7 ac8 ac9 ac10 ar0 ar1 ar2 ar3 ar4 ar5 ar6 ar7 ar8 ar9 ar10 bc0 bc1 bc2 bc3 bc4 bc5 bc6 bc7 bc8 bc9 bc10 br0 br1 br2 br3 br4 br5 br6 br7 br8 br9 br10 dc0 dc1 dc2 dc3 dc4 dc5 dc6 dc7 dc8 dc9 dc10 dr0 dr1 dr2 dr3 dr4 dr5 dr6 dr7 dr8 dr9 dr10
          go_upto_region 14 with fail
          rw [← hV]
          clear hV
          have g4 := Kd.cell 3 (v := .int .i64 r.code) rfl
          have f4 := Kd.frozen 3
          go_upto_region 15 with (go_at_call 24; (with_reducible refine (hpx _).mono ?_); rintro e w8 ⟨j, rfl, hj, rfl⟩; have hj1 : 1 ≤ 1 + (j : Int) := by omega)
          have Ke := Kd.set_ 3 (.int .i64 (1 + (j : Int)))
          simp only [List.setIfInBounds_toArray, List.set_cons_zero, List.set_cons_succ] at Ke
          have hX9 : Ext W _ := hXV.set (p := ⟨w7.heap.size, 3, none⟩) hX7l (.int .i64 (1 + (j : Int)))
          generalize V.setCell ⟨w7.heap.size, 3, none⟩ (.int .i64 (1 + (j : Int))) = w9 at Ke hX9 ⊢
          clear g4 f4 Kd hXV hEV
          have ac0 := Ke.cell 0 (v := .string r.ten) rfl
          have ar0 := fun (w' : World) (h : Ext w9 w') => h.cellk ac0
          have ac1 := Ke.cell 1 (v := .int .i64 r.clock) rfl
          have ar1 := fun (w' : World) (h : Ext w9 w') => h.cellk ac1
          have ac2 := Ke.cell 2 (v := .int .i64 r.kind) rfl
          have ar2 := fun (w' : World) (h : Ext w9 w') => h.cellk ac2
          have ac3 := Ke.cell 3 (v := .int .i64 (1 + (j : Int))) rfl
          have ar3 := fun (w' : World) (h : Ext w9 w') => h.cellk ac3
          have ac4 := Ke.cell 4 (v := .int .i64 r.id) rfl
          have ar4 := fun (w' : World) (h : Ext w9 w') => h.cellk ac4
          have ac5 := Ke.cell 5 (v := .string r.st) rfl
          have ar5 := fun (w' : World) (h : Ext w9 w') => h.cellk ac5
          have ac6 := Ke.cell 6 (v := .string r.su) rfl
          have ar6 := fun (w' : World) (h : Ext w9 w') => h.cellk ac6
          have ac7 := Ke.cell 7 (v := .int .i64 r.slot) rfl
          have ar7 := fun (w' : World) (h : Ext w9 w') => h.cellk ac7
          have ac8 := Ke.cell 8 (v := .int .i64 r.uses) rfl
          have ar8 := fun (w' : World) (h : Ext w9 w') => h.cellk ac8
          have ac9 := Ke.cell 9 (v := .int .i64 r.num) rfl
          have ar9 := fun (w' : World) (h : Ext w9 w') => h.cellk ac9
          have ac10 := Ke.cell 10 (v := .slice A k c) rfl
          have ar10 := fun (w' : World) (h : Ext w9 w') => h.cellk ac10
          have hY9 : Ext w9 w9 := Ext.refl w9
          have hc4 := fun (w' : World) (h : Ext W w') => check_any w' { r with code := (1 + (j : Int)) } A c (by show rdB.Sl w' A r.sealed.length r.sealed; rw [HK.out]; exact hSW.ext h) (by show r.sealed.length ≤ c; rw [HK.out]; exact hc) (by have := hok.n; exact Nat.le_trans this (by decide)) (fun x hx => by have := hok.m x hx; omega) (Nat.le_trans hok.ten (by decide)) (Nat.le_trans hok.st (by decide)) (Nat.le_trans hok.su (by decide))
          dsimp only at hc4
          rw [HK.out] at hc4
          obtain ⟨cd, hcd⟩ : ∃ v, checkG { r with code := (1 + (j : Int)) } = v := ⟨_, rfl⟩
          rw [hcd] at hc4
          have s1 := r7 w9 hX9
          have s2 := r8 w9 hX9
          have s3 := r9 w9 hX9
          have s4 := r10 w9 hX9
          by_cases e1 : r.slot = 0
          · have e1' : (r.slot == 0) = true := by simpa using e1
            by_cases e2 : r.uses = 0
            · have e2' : (r.uses == 0) = true := by simpa using e2
              by_cases e3 : r.num = 0
              · have e3' : (r.num == 0) = true := by simpa using e3
                by_cases e4 : k = 0
                · have e4' : (((k : Int)) == 0) = true := by simpa using e4
                  have hcd2 : (cd == 0) = true := by rw [Bool.eq_iff_iff, beq_iff_eq, ← hcd, set_code HZ.out _ (by omega) (by omega)]; unfold bareR; rw [HK.out]; simp [e1, e2, e3, e4]
                  clear hcd
                  try clear e1
                  try clear e2
                  try clear e3
                  try clear e4
                  go_wp2_with (first | (go_at_call 14; (with_reducible refine (hc4 _ hX9).mono ?_); rintro e w10 ⟨rfl, hE10⟩; have hX10 := hX9.trans hE10) | (go_at_call 10; (with_reducible refine (hwo _).mono ?_); rintro e w11 ⟨rfl, hE11⟩))
                  go_ret
                  exact ⟨rfl, hE.trans (hX10.trans hE11)⟩
                · have e4' : (((k : Int)) == 0) = false := by simpa using e4
                  have hcd2 : (cd == 0) = false := by rw [Bool.eq_iff_iff, beq_iff_eq, ← hcd, set_code HZ.out _ (by omega) (by omega)]; unfold bareR; rw [HK.out]; simp [e1, e2, e3, e4]
                  clear hcd
                  try clear e1
                  try clear e2
                  try clear e3
                  try clear e4
                  go_wp2_with (first | (go_at_call 14; (with_reducible refine (hc4 _ hX9).mono ?_); rintro e w10 ⟨rfl, hE10⟩; have hX10 := hX9.trans hE10) | (go_at_call 10; (with_reducible refine (hwo _).mono ?_); rintro e w11 ⟨rfl, hE11⟩))
                  go_ret
                  exact ⟨rfl, hE.trans (hX10.trans hE11)⟩
              · have e3' : (r.num == 0) = false := by simpa using e3
                have hcd2 : (cd == 0) = false := by rw [Bool.eq_iff_iff, beq_iff_eq, ← hcd, set_code HZ.out _ (by omega) (by omega)]; unfold bareR; rw [HK.out]; simp [e1, e2, e3]
                clear hcd
                try clear e1
                try clear e2
                try clear e3
                try clear e4
                go_wp2_with (first | (go_at_call 14; (with_reducible refine (hc4 _ hX9).mono ?_); rintro e w10 ⟨rfl, hE10⟩; have hX10 := hX9.trans hE10) | (go_at_call 10; (with_reducible refine (hwo _).mono ?_); rintro e w11 ⟨rfl, hE11⟩))
                go_ret
                exact ⟨rfl, hE.trans (hX10.trans hE11)⟩
            · have e2' : (r.uses == 0) = false := by simpa using e2
              have hcd2 : (cd == 0) = false := by rw [Bool.eq_iff_iff, beq_iff_eq, ← hcd, set_code HZ.out _ (by omega) (by omega)]; unfold bareR; rw [HK.out]; simp [e1, e2]
              clear hcd
              try clear e1
              try clear e2
              try clear e3
              try clear e4
              go_wp2_with (first | (go_at_call 14; (with_reducible refine (hc4 _ hX9).mono ?_); rintro e w10 ⟨rfl, hE10⟩; have hX10 := hX9.trans hE10) | (go_at_call 10; (with_reducible refine (hwo _).mono ?_); rintro e w11 ⟨rfl, hE11⟩))
              go_ret
              exact ⟨rfl, hE.trans (hX10.trans hE11)⟩
          · have e1' : (r.slot == 0) = false := by simpa using e1
            have hcd2 : (cd == 0) = false := by rw [Bool.eq_iff_iff, beq_iff_eq, ← hcd, set_code HZ.out _ (by omega) (by omega)]; unfold bareR; rw [HK.out]; simp [e1]
            clear hcd
            try clear e1
            try clear e2
            try clear e3
            try clear e4
            go_wp2_with (first | (go_at_call 14; (with_reducible refine (hc4 _ hX9).mono ?_); rintro e w10 ⟨rfl, hE10⟩; have hX10 := hX9.trans hE10) | (go_at_call 10; (with_reducible refine (hwo _).mono ?_); rintro e w11 ⟨rfl, hE11⟩))
            go_ret
            exact ⟨rfl, hE.trans (hX10.trans hE11)⟩
        · have hb1 : (r.kind == 1) = false := by simpa using hk1
          by_cases hk5 : r.kind = 5
          · have hb5 : (r.kind == 5) = true := by simpa using hk5
            have HQ := Lib.hid hk5
            clear hk1 hk5
            go_upto_region 7 with fail
            refine wp_region_noPanic ?_
            refine tr_start (.y 0 (.y 1 (.y 2 (.three 3 4 5 (.two 4 5 (.e 5 (.e 6 (.e 7 (.e 8 .nil)))) (.e 4 (.e 6 (.e 7 (.e 8 .nil))))) (.two 3 5 (.e 5 (.e 6 (.e 7 (.e 8 .nil)))) (.e 3 (.e 6 (.e 7 (.e 8 .nil))))) (.two 3 4 (.e 4 (.e 6 (.e 7 (.e 8 .nil)))) (.e 3 (.e 6 (.e 7 (.e 8 .nil))))))))) (fun w' => Ext W w') (by kernel_rfl) (by kernel_rfl) (fun _ _ _ _ _ h => h) (by (repeat (first | assumption | exact Ext.refl _ | refine Ext.drew ?_ | refine Ext.alloc ?_ _ | refine Ext.drewN ?_ _ | refine Ext.trans ?_ (by assumption)))) ?_
            have hYd : Ext W w2.drew := by (repeat (first | assumption | exact Ext.refl _ | refine Ext.drew ?_ | refine Ext.alloc ?_ _ | refine Ext.drewN ?_ _ | refine Ext.trans ?_ (by assumption)))
            generalize w2.drew = wd at hYd ⊢
            iterate 3 (first | (refine tr_off (a' := ?_) rfl rfl (by rfl) ?_ ?_; rotate_left 1; (· simp only [Act.put, List.setIfInBounds_toArray, List.set_cons_zero, List.set_cons_succ]; rfl)) | (refine tr_y (v := ?_) (a' := ?_) rfl rfl (by rfl) (fun w' hw' => ?_) ?_ ?_; rotate_left 2; (· go_simp; with_reducible rfl); (· simp only [Act.put, List.setIfInBounds_toArray, List.set_cons_zero, List.set_cons_succ]; rfl)))
            apply key_intro (F := Three3 W #[.string r.ten, .int .i64 r.clock, .int .i64 r.kind, .int .i64 r.code, .int .i64 r.id, .string r.st, .string r.su, .int .i64 r.slot, .int .i64 r.uses, .int .i64 r.num, .slice A k c])
            case h =>
              intro key
              have hT := three_mk hYd #[.string r.ten, .int .i64 r.clock, .int .i64 r.kind, .int .i64 r.code, .int .i64 r.id, .string r.st, .string r.su, .int .i64 r.slot, .int .i64 r.uses, .int .i64 r.num, .slice A k c]
              refine tr_three ?_ ?_ ?_
              all_goals (refine tr_value (v := ?_) (w1 := ?_) (a' := ?_) rfl rfl (by rfl) ?_ ?_ ?_ ?_; rotate_left 3; (· go_simp; refine ⟨?_, ?_⟩ <;> with_reducible rfl); (· exact hYd.alloc _); (· simp only [Act.put, List.setIfInBounds_toArray, List.set_cons_zero, List.set_cons_succ]; rfl))
              all_goals refine tr_two ?_ ?_
              all_goals (refine tr_value (v := ?_) (w1 := ?_) (a' := ?_) rfl rfl (by rfl) ?_ ?_ ?_ ?_; rotate_left 3; (· go_simp; refine ⟨?_, ?_⟩ <;> with_reducible rfl); (· exact (hYd.alloc _).alloc _); (· simp only [Act.put, List.setIfInBounds_toArray, List.set_cons_zero, List.set_cons_succ]; rfl))
              all_goals (refine tr_value (v := ?_) (w1 := ?_) (a' := ?_) rfl rfl (by rfl) ?_ ?_ ?_ ?_; rotate_left 3; (· go_simp; refine ⟨?_, ?_⟩ <;> with_reducible rfl); (· exact ((hYd.alloc _).alloc _).alloc _); (· simp only [Act.put, List.setIfInBounds_toArray, List.set_cons_zero, List.set_cons_succ]; rfl))
              all_goals (refine tr_store (w1 := ?_) rfl (by rfl) rfl ?_ ?_ ?_; rotate_left 1; (· go_simp; with_reducible rfl); (· exact ((hYd.alloc _).alloc _).alloc _))
              all_goals (refine tr_store (w1 := ?_) rfl (by rfl) rfl ?_ ?_ ?_; rotate_left 1; (· go_simp; with_reducible rfl); (· exact ((hYd.alloc _).alloc _).alloc _))
              all_goals (refine tr_store (w1 := ?_) rfl (by rfl) rfl ?_ ?_ ?_; rotate_left 1; (· go_simp; with_reducible rfl); (· exact ((hYd.alloc _).alloc _).alloc _))
              all_goals refine tr_end (NoPanic.normal ?_)
              all_goals (generalize wd.heap.size + 1 + 1 = p3 at hT ⊢; generalize wd.heap.size + 1 = p2 at hT ⊢; generalize wd.heap.size = p1 at hT ⊢; generalize ((wd.alloc (.cells #[.string r.ten, .int .i64 r.clock, .int .i64 r.kind, .int .i64 r.code, .int .i64 r.id, .string r.st, .string r.su, .int .i64 r.slot, .int .i64 r.uses, .int .i64 r.num, .slice A k c] 25)).alloc (.cells #[.string r.ten, .int .i64 r.clock, .int .i64 r.kind, .int .i64 r.code, .int .i64 r.id, .string r.st, .string r.su, .int .i64 r.slot, .int .i64 r.uses, .int .i64 r.num, .slice A k c] 25)).alloc (.cells #[.string r.ten, .int .i64 r.clock, .int .i64 r.kind, .int .i64 r.code, .int .i64 r.id, .string r.st, .string r.su, .int .i64 r.slot, .int .i64 r.uses, .int .i64 r.num, .slice A k c] 25) = w3 at hT ⊢)
              all_goals first | exact key p1 p2 p3 w3 hT | exact key p2 p1 p3 w3 hT.swap | exact key p2 p3 p1 w3 hT.rot | exact key p3 p1 p2 w3 hT.rot.rot | exact key p3 p2 p1 w3 hT.rot.swap | exact key p1 p3 p2 w3 hT.rot.rot.swap
            intro p1 p2 p3 w3 hT
            have g1 := hT.ka.cell 7 (v := .int .i64 r.slot) rfl
            have g2 := hT.kb.cell 9 (v := .int .i64 r.num) rfl
            have g3 := hT.kc.cell 8 (v := .int .i64 r.uses) rfl
            have f1 := hT.ka.frozen 7
            have f2 := hT.kb.frozen 9
            have f3 := hT.kc.frozen 8
            go_upto_region 11 with fail
            have Ka := (((hT.ka.set_ 7 (.int .i64 (1 + (i : Int)))).far (p := ⟨p2, 9, none⟩) hT.ab (.int .i64 (1 + (i : Int)))).far (p := ⟨p3, 8, none⟩) hT.ac (.int .i64 (1 + (i : Int))))
            have Kb := (((hT.kb.far (p := ⟨p1, 7, none⟩) hT.ab.symm (.int .i64 (1 + (i : Int)))).set_ 9 (.int .i64 (1 + (i : Int)))).far (p := ⟨p3, 8, none⟩) hT.bc (.int .i64 (1 + (i : Int))))
            have Kc := (((hT.kc.far (p := ⟨p1, 7, none⟩) hT.ac.symm (.int .i64 (1 + (i : Int)))).far (p := ⟨p2, 9, none⟩) hT.bc.symm (.int .i64 (1 + (i : Int)))).set_ 8 (.int .i64 (1 + (i : Int))))
            simp only [List.setIfInBounds_toArray, List.set_cons_zero, List.set_cons_succ] at Ka Kb Kc
            have hX4 : Ext W _ := ((hT.ext.set (p := ⟨p1, 7, none⟩) hT.ha (.int .i64 (1 + (i : Int)))).set (p := ⟨p2, 9, none⟩) hT.hb (.int .i64 (1 + (i : Int)))).set (p := ⟨p3, 8, none⟩) hT.hc (.int .i64 (1 + (i : Int)))
            generalize ((w3.setCell ⟨p1, 7, none⟩ (.int .i64 (1 + (i : Int)))).setCell ⟨p2, 9, none⟩ (.int .i64 (1 + (i : Int)))).setCell ⟨p3, 8, none⟩ (.int .i64 (1 + (i : Int))) = w4 at Ka Kb Kc hX4 ⊢
            clear g1 g2 g3 f1 f2 f3 hT hYd
            have ac0 := Ka.cell 0 (v := .string r.ten) rfl
            have ar0 := fun (w' : World) (h : Ext w4 w') => h.cellk ac0
            have ac1 := Ka.cell 1 (v := .int .i64 r.clock) rfl
            have ar1 := fun (w' : World) (h : Ext w4 w') => h.cellk ac1
            have ac2 := Ka.cell 2 (v := .int .i64 r.kind) rfl
            have ar2 := fun (w' : World) (h : Ext w4 w') => h.cellk ac2
            have ac3 := Ka.cell 3 (v := .int .i64 r.code) rfl
            have ar3 := fun (w' : World) (h : Ext w4 w') => h.cellk ac3
            have ac4 := Ka.cell 4 (v := .int .i64 r.id) rfl
            have ar4 := fun (w' : World) (h : Ext w4 w') => h.cellk ac4
            have ac5 := Ka.cell 5 (v := .string r.st) rfl
            have ar5 := fun (w' : World) (h : Ext w4 w') => h.cellk ac5
            have ac6 := Ka.cell 6 (v := .string r.su) rfl
            have ar6 := fun (w' : World) (h : Ext w4 w') => h.cellk ac6
            have ac7 := Ka.cell 7 (v := .int .i64 (1 + (i : Int))) rfl
            have ar7 := fun (w' : World) (h : Ext w4 w') => h.cellk ac7
            have ac8 := Ka.cell 8 (v := .int .i64 r.uses) rfl
            have ar8 := fun (w' : World) (h : Ext w4 w') => h.cellk ac8
            have ac9 := Ka.cell 9 (v := .int .i64 r.num) rfl
            have ar9 := fun (w' : World) (h : Ext w4 w') => h.cellk ac9
            have ac10 := Ka.cell 10 (v := .slice A k c) rfl
            have ar10 := fun (w' : World) (h : Ext w4 w') => h.cellk ac10
            have bc0 := Kb.cell 0 (v := .string r.ten) rfl
            have br0 := fun (w' : World) (h : Ext w4 w') => h.cellk bc0
            have bc1 := Kb.cell 1 (v := .int .i64 r.clock) rfl
            have br1 := fun (w' : World) (h : Ext w4 w') => h.cellk bc1
            have bc2 := Kb.cell 2 (v := .int .i64 r.kind) rfl
            have br2 := fun (w' : World) (h : Ext w4 w') => h.cellk bc2
            have bc3 := Kb.cell 3 (v := .int .i64 r.code) rfl
            have br3 := fun (w' : World) (h : Ext w4 w') => h.cellk bc3
            have bc4 := Kb.cell 4 (v := .int .i64 r.id) rfl
            have br4 := fun (w' : World) (h : Ext w4 w') => h.cellk bc4
            have bc5 := Kb.cell 5 (v := .string r.st) rfl
            have br5 := fun (w' : World) (h : Ext w4 w') => h.cellk bc5
            have bc6 := Kb.cell 6 (v := .string r.su) rfl
            have br6 := fun (w' : World) (h : Ext w4 w') => h.cellk bc6
            have bc7 := Kb.cell 7 (v := .int .i64 r.slot) rfl
            have br7 := fun (w' : World) (h : Ext w4 w') => h.cellk bc7
            have bc8 := Kb.cell 8 (v := .int .i64 r.uses) rfl
            have br8 := fun (w' : World) (h : Ext w4 w') => h.cellk bc8
            have bc9 := Kb.cell 9 (v := .int .i64 (1 + (i : Int))) rfl
            have br9 := fun (w' : World) (h : Ext w4 w') => h.cellk bc9
            have bc10 := Kb.cell 10 (v := .slice A k c) rfl
            have br10 := fun (w' : World) (h : Ext w4 w') => h.cellk bc10
            have dc0 := Kc.cell 0 (v := .string r.ten) rfl
            have dr0 := fun (w' : World) (h : Ext w4 w') => h.cellk dc0
            have dc1 := Kc.cell 1 (v := .int .i64 r.clock) rfl
            have dr1 := fun (w' : World) (h : Ext w4 w') => h.cellk dc1
            have dc2 := Kc.cell 2 (v := .int .i64 r.kind) rfl
            have dr2 := fun (w' : World) (h : Ext w4 w') => h.cellk dc2
            have dc3 := Kc.cell 3 (v := .int .i64 r.code) rfl
            have dr3 := fun (w' : World) (h : Ext w4 w') => h.cellk dc3
            have dc4 := Kc.cell 4 (v := .int .i64 r.id) rfl
            have dr4 := fun (w' : World) (h : Ext w4 w') => h.cellk dc4
            have dc5 := Kc.cell 5 (v := .string r.st) rfl
            have dr5 := fun (w' : World) (h : Ext w4 w') => h.cellk dc5
            have dc6 := Kc.cell 6 (v := .string r.su) rfl
            have dr6 := fun (w' : World) (h : Ext w4 w') => h.cellk dc6
            have dc7 := Kc.cell 7 (v := .int .i64 r.slot) rfl
            have dr7 := fun (w' : World) (h : Ext w4 w') => h.cellk dc7
            have dc8 := Kc.cell 8 (v := .int .i64 (1 + (i : Int))) rfl
            have dr8 := fun (w' : World) (h : Ext w4 w') => h.cellk dc8
            have dc9 := Kc.cell 9 (v := .int .i64 r.num) rfl
            have dr9 := fun (w' : World) (h : Ext w4 w') => h.cellk dc9
            have dc10 := Kc.cell 10 (v := .slice A k c) rfl
            have dr10 := fun (w' : World) (h : Ext w4 w') => h.cellk dc10
            have hY4 : Ext w4 w4 := Ext.refl w4
            have hc1 := fun (w' : World) (h : Ext W w') => check_any w' { r with slot := (1 + (i : Int)) } A c (by show rdB.Sl w' A r.sealed.length r.sealed; rw [HK.out]; exact hSW.ext h) (by show r.sealed.length ≤ c; rw [HK.out]; exact hc) (by have := hok.n; exact Nat.le_trans this (by decide)) (fun x hx => by have := hok.m x hx; omega) (Nat.le_trans hok.ten (by decide)) (Nat.le_trans hok.st (by decide)) (Nat.le_trans hok.su (by decide))
            dsimp only at hc1
            rw [HK.out] at hc1
            obtain ⟨ca, hca⟩ : ∃ v, checkG { r with slot := (1 + (i : Int)) } = v := ⟨_, rfl⟩
            rw [hca] at hc1
            have hc2 := fun (w' : World) (h : Ext W w') => check_any w' { r with num := (1 + (i : Int)) } A c (by show rdB.Sl w' A r.sealed.length r.sealed; rw [HK.out]; exact hSW.ext h) (by show r.sealed.length ≤ c; rw [HK.out]; exact hc) (by have := hok.n; exact Nat.le_trans this (by decide)) (fun x hx => by have := hok.m x hx; omega) (Nat.le_trans hok.ten (by decide)) (Nat.le_trans hok.st (by decide)) (Nat.le_trans hok.su (by decide))
            dsimp only at hc2
            rw [HK.out] at hc2
            obtain ⟨cb, hcb⟩ : ∃ v, checkG { r with num := (1 + (i : Int)) } = v := ⟨_, rfl⟩
            rw [hcb] at hc2
            have hc3 := fun (w' : World) (h : Ext W w') => check_any w' { r with uses := (1 + (i : Int)) } A c (by show rdB.Sl w' A r.sealed.length r.sealed; rw [HK.out]; exact hSW.ext h) (by show r.sealed.length ≤ c; rw [HK.out]; exact hc) (by have := hok.n; exact Nat.le_trans this (by decide)) (fun x hx => by have := hok.m x hx; omega) (Nat.le_trans hok.ten (by decide)) (Nat.le_trans hok.st (by decide)) (Nat.le_trans hok.su (by decide))
            dsimp only at hc3
            rw [HK.out] at hc3
            obtain ⟨cc, hcc⟩ : ∃ v, checkG { r with uses := (1 + (i : Int)) } = v := ⟨_, rfl⟩
            rw [hcc] at hc3
            have q1 : (ca == 0) = false := by have hc0 := HC0.out; have hq := HQ.out; rw [Bool.eq_iff_iff, beq_iff_eq, ← hca, set_slot HZ.out _ (by omega) (by omega)]; simp [appR, hc0, hq]
            have q2 : (cb == 0) = true := by have hc0 := HC0.out; have hq := HQ.out; rw [Bool.eq_iff_iff, beq_iff_eq, ← hcb, set_num HZ.out _ (by omega) (by omega)]; simp [numR, hc0, hq]
            have q3 : (cc == 0) = false := by have hc0 := HC0.out; have hq := HQ.out; rw [Bool.eq_iff_iff, beq_iff_eq, ← hcc, set_uses HZ.out _ (by omega) (by omega)]; simp [appR, hc0, hq]
            have q4 : decide ((0 : Int) < (k : Int)) = false := by have hc0 := HC0.out; have hq := HQ.out; rw [Bool.eq_iff_iff, decide_eq_true_iff, ← HK.out, Int.natCast_pos, ← app_len HZ.out]; simp [appR, hc0, hq]
            have q5 : decide (0 < k) = false := by rw [← q4]; simp
            clear hca hcb hcc
            go_upto_region 13 with (first | (go_at_call 14; (with_reducible refine (hc1 _ hX4).mono ?_); rintro e w5 ⟨rfl, hE5⟩; have hX5 := hX4.trans hE5) | (go_at_call 14; (with_reducible refine (hc2 _ hX5).mono ?_); rintro e w6 ⟨rfl, hE6⟩; have hX6 := hX5.trans hE6; have hZ6 := hE5.trans hE6) | (go_at_call 14; (with_reducible refine (hc3 _ hX6).mono ?_); rintro e w7 ⟨rfl, hE7⟩; have hX7 := hX6.trans hE7))
            obtain ⟨V, hV, hEV, -⟩ := box1 w7 #[.string r.ten, .int .i64 r.clock, .int .i64 r.kind, .int .i64 r.code, .int .i64 r.id, .string r.st, .string r.su, .int .i64 r.slot, .int .i64 r.uses, .int .i64 r.num, .slice A k c] 25
            have Kd : Blk V w7.heap.size 25 #[.string r.ten, .int .i64 r.clock, .int .i64 r.kind, .int .i64 r.code, .int .i64 r.id, .string r.st, .string r.su, .int .i64 r.slot, .int .i64 r.uses, .int .i64 r.num, .slice A k c] := by rw [hV]; exact Blk.new _ _ _
            have hX7l := hX7.le
            have hXV := hX7.trans hEV
            clear Ka Kb Kc hX4 hX5 hX6 hZ6 hc1 hc2 hc3 q1 q2 q3 q4 q5 hY4 hE5 hE6 hE7
            clear ac0 ac1 ac2 ac3 ac4 ac5 ac6 ac7 ac8 ac9 ac10 ar0 ar1 ar2 ar3 ar4 ar5 ar6 ar7 ar8 ar9 ar10 bc0 bc1 bc2 bc3 bc4 bc5 bc6 bc7 bc8 bc9 bc10 br0 br1 br2 br3 br4 br5 br6 br7 br8 br9 br10 dc0 dc1 dc2 dc3 dc4 dc5 dc6 dc7 dc8 dc9 dc10 dr0 dr1 dr2 dr3 dr4 dr5 dr6 dr7 dr8 dr9 dr10
            go_upto_region 14 with fail
            rw [← hV]
            clear hV
            have g4 := Kd.cell 3 (v := .int .i64 r.code) rfl
            have f4 := Kd.frozen 3
            go_upto_region 15 with (go_at_call 24; (with_reducible refine (hpx _).mono ?_); rintro e w8 ⟨j, rfl, hj, rfl⟩; have hj1 : 1 ≤ 1 + (j : Int) := by omega)
            have Ke := Kd.set_ 3 (.int .i64 (1 + (j : Int)))
            simp only [List.setIfInBounds_toArray, List.set_cons_zero, List.set_cons_succ] at Ke
            have hX9 : Ext W _ := hXV.set (p := ⟨w7.heap.size, 3, none⟩) hX7l (.int .i64 (1 + (j : Int)))
            generalize V.setCell ⟨w7.heap.size, 3, none⟩ (.int .i64 (1 + (j : Int))) = w9 at Ke hX9 ⊢
            clear g4 f4 Kd hXV hEV
            have ac0 := Ke.cell 0 (v := .string r.ten) rfl
            have ar0 := fun (w' : World) (h : Ext w9 w') => h.cellk ac0
            have ac1 := Ke.cell 1 (v := .int .i64 r.clock) rfl
            have ar1 := fun (w' : World) (h : Ext w9 w') => h.cellk ac1
            have ac2 := Ke.cell 2 (v := .int .i64 r.kind) rfl
            have ar2 := fun (w' : World) (h : Ext w9 w') => h.cellk ac2
            have ac3 := Ke.cell 3 (v := .int .i64 (1 + (j : Int))) rfl
            have ar3 := fun (w' : World) (h : Ext w9 w') => h.cellk ac3
            have ac4 := Ke.cell 4 (v := .int .i64 r.id) rfl
            have ar4 := fun (w' : World) (h : Ext w9 w') => h.cellk ac4
            have ac5 := Ke.cell 5 (v := .string r.st) rfl
            have ar5 := fun (w' : World) (h : Ext w9 w') => h.cellk ac5
            have ac6 := Ke.cell 6 (v := .string r.su) rfl
            have ar6 := fun (w' : World) (h : Ext w9 w') => h.cellk ac6
            have ac7 := Ke.cell 7 (v := .int .i64 r.slot) rfl
            have ar7 := fun (w' : World) (h : Ext w9 w') => h.cellk ac7
            have ac8 := Ke.cell 8 (v := .int .i64 r.uses) rfl
            have ar8 := fun (w' : World) (h : Ext w9 w') => h.cellk ac8
            have ac9 := Ke.cell 9 (v := .int .i64 r.num) rfl
            have ar9 := fun (w' : World) (h : Ext w9 w') => h.cellk ac9
            have ac10 := Ke.cell 10 (v := .slice A k c) rfl
            have ar10 := fun (w' : World) (h : Ext w9 w') => h.cellk ac10
            have hY9 : Ext w9 w9 := Ext.refl w9
            have hc4 := fun (w' : World) (h : Ext W w') => check_any w' { r with code := (1 + (j : Int)) } A c (by show rdB.Sl w' A r.sealed.length r.sealed; rw [HK.out]; exact hSW.ext h) (by show r.sealed.length ≤ c; rw [HK.out]; exact hc) (by have := hok.n; exact Nat.le_trans this (by decide)) (fun x hx => by have := hok.m x hx; omega) (Nat.le_trans hok.ten (by decide)) (Nat.le_trans hok.st (by decide)) (Nat.le_trans hok.su (by decide))
            dsimp only at hc4
            rw [HK.out] at hc4
            obtain ⟨cd, hcd⟩ : ∃ v, checkG { r with code := (1 + (j : Int)) } = v := ⟨_, rfl⟩
            rw [hcd] at hc4
            have s1 := r7 w9 hX9
            have s2 := r8 w9 hX9
            have s3 := r9 w9 hX9
            have s4 := r10 w9 hX9
            by_cases e1 : r.slot = 0
            · have e1' : (r.slot == 0) = true := by simpa using e1
              by_cases e2 : r.uses = 0
              · have e2' : (r.uses == 0) = true := by simpa using e2
                by_cases e3 : r.num = 0
                · have e3' : (r.num == 0) = true := by simpa using e3
                  by_cases e4 : k = 0
                  · have e4' : (((k : Int)) == 0) = true := by simpa using e4
                    have hcd2 : (cd == 0) = true := by rw [Bool.eq_iff_iff, beq_iff_eq, ← hcd, set_code HZ.out _ (by omega) (by omega)]; unfold bareR; rw [HK.out]; simp [e1, e2, e3, e4]
                    clear hcd
                    try clear e1
                    try clear e2
                    try clear e3
                    try clear e4
                    go_wp2_with (first | (go_at_call 14; (with_reducible refine (hc4 _ hX9).mono ?_); rintro e w10 ⟨rfl, hE10⟩; have hX10 := hX9.trans hE10) | (go_at_call 10; (with_reducible refine (hwo _).mono ?_); rintro e w11 ⟨rfl, hE11⟩))
                    go_ret
                    exact ⟨rfl, hE.trans (hX10.trans hE11)⟩
                  · have e4' : (((k : Int)) == 0) = false := by simpa using e4
                    have hcd2 : (cd == 0) = false := by rw [Bool.eq_iff_iff, beq_iff_eq, ← hcd, set_code HZ.out _ (by omega) (by omega)]; unfold bareR; rw [HK.out]; simp [e1, e2, e3, e4]
                    clear hcd
                    try clear e1
                    try clear e2
                    try clear e3
                    try clear e4
                    go_wp2_with (first | (go_at_call 14; (with_reducible refine (hc4 _ hX9).mono ?_); rintro e w10 ⟨rfl, hE10⟩; have hX10 := hX9.trans hE10) | (go_at_call 10; (with_reducible refine (hwo _).mono ?_); rintro e w11 ⟨rfl, hE11⟩))
                    go_ret
                    exact ⟨rfl, hE.trans (hX10.trans hE11)⟩
                · have e3' : (r.num == 0) = false := by simpa using e3
                  have hcd2 : (cd == 0) = false := by rw [Bool.eq_iff_iff, beq_iff_eq, ← hcd, set_code HZ.out _ (by omega) (by omega)]; unfold bareR; rw [HK.out]; simp [e1, e2, e3]
                  clear hcd
                  try clear e1
                  try clear e2
                  try clear e3
                  try clear e4
                  go_wp2_with (first | (go_at_call 14; (with_reducible refine (hc4 _ hX9).mono ?_); rintro e w10 ⟨rfl, hE10⟩; have hX10 := hX9.trans hE10) | (go_at_call 10; (with_reducible refine (hwo _).mono ?_); rintro e w11 ⟨rfl, hE11⟩))
                  go_ret
                  exact ⟨rfl, hE.trans (hX10.trans hE11)⟩
              · have e2' : (r.uses == 0) = false := by simpa using e2
                have hcd2 : (cd == 0) = false := by rw [Bool.eq_iff_iff, beq_iff_eq, ← hcd, set_code HZ.out _ (by omega) (by omega)]; unfold bareR; rw [HK.out]; simp [e1, e2]
                clear hcd
                try clear e1
                try clear e2
                try clear e3
                try clear e4
                go_wp2_with (first | (go_at_call 14; (with_reducible refine (hc4 _ hX9).mono ?_); rintro e w10 ⟨rfl, hE10⟩; have hX10 := hX9.trans hE10) | (go_at_call 10; (with_reducible refine (hwo _).mono ?_); rintro e w11 ⟨rfl, hE11⟩))
                go_ret
                exact ⟨rfl, hE.trans (hX10.trans hE11)⟩
            · have e1' : (r.slot == 0) = false := by simpa using e1
              have hcd2 : (cd == 0) = false := by rw [Bool.eq_iff_iff, beq_iff_eq, ← hcd, set_code HZ.out _ (by omega) (by omega)]; unfold bareR; rw [HK.out]; simp [e1]
              clear hcd
              try clear e1
              try clear e2
              try clear e3
              try clear e4
              go_wp2_with (first | (go_at_call 14; (with_reducible refine (hc4 _ hX9).mono ?_); rintro e w10 ⟨rfl, hE10⟩; have hX10 := hX9.trans hE10) | (go_at_call 10; (with_reducible refine (hwo _).mono ?_); rintro e w11 ⟨rfl, hE11⟩))
              go_ret
              exact ⟨rfl, hE.trans (hX10.trans hE11)⟩
          · have hb5 : (r.kind == 5) = false := by simpa using hk5
            by_cases hk6 : r.kind = 6
            · have hb6 : (r.kind == 6) = true := by simpa using hk6
              have HQ := Lib.hid hk6
              clear hk1 hk5 hk6
              go_upto_region 7 with fail
              refine wp_region_noPanic ?_
              refine tr_start (.y 0 (.y 1 (.y 2 (.three 3 4 5 (.two 4 5 (.e 5 (.e 6 (.e 7 (.e 8 .nil)))) (.e 4 (.e 6 (.e 7 (.e 8 .nil))))) (.two 3 5 (.e 5 (.e 6 (.e 7 (.e 8 .nil)))) (.e 3 (.e 6 (.e 7 (.e 8 .nil))))) (.two 3 4 (.e 4 (.e 6 (.e 7 (.e 8 .nil)))) (.e 3 (.e 6 (.e 7 (.e 8 .nil))))))))) (fun w' => Ext W w') (by kernel_rfl) (by kernel_rfl) (fun _ _ _ _ _ h => h) (by (repeat (first | assumption | exact Ext.refl _ | refine Ext.drew ?_ | refine Ext.alloc ?_ _ | refine Ext.drewN ?_ _ | refine Ext.trans ?_ (by assumption)))) ?_
              have hYd : Ext W w2.drew := by (repeat (first | assumption | exact Ext.refl _ | refine Ext.drew ?_ | refine Ext.alloc ?_ _ | refine Ext.drewN ?_ _ | refine Ext.trans ?_ (by assumption)))
              generalize w2.drew = wd at hYd ⊢
              iterate 3 (first | (refine tr_off (a' := ?_) rfl rfl (by rfl) ?_ ?_; rotate_left 1; (· simp only [Act.put, List.setIfInBounds_toArray, List.set_cons_zero, List.set_cons_succ]; rfl)) | (refine tr_y (v := ?_) (a' := ?_) rfl rfl (by rfl) (fun w' hw' => ?_) ?_ ?_; rotate_left 2; (· go_simp; with_reducible rfl); (· simp only [Act.put, List.setIfInBounds_toArray, List.set_cons_zero, List.set_cons_succ]; rfl)))
              apply key_intro (F := Three3 W #[.string r.ten, .int .i64 r.clock, .int .i64 r.kind, .int .i64 r.code, .int .i64 r.id, .string r.st, .string r.su, .int .i64 r.slot, .int .i64 r.uses, .int .i64 r.num, .slice A k c])
              case h =>
                intro key
                have hT := three_mk hYd #[.string r.ten, .int .i64 r.clock, .int .i64 r.kind, .int .i64 r.code, .int .i64 r.id, .string r.st, .string r.su, .int .i64 r.slot, .int .i64 r.uses, .int .i64 r.num, .slice A k c]
                refine tr_three ?_ ?_ ?_
                all_goals (refine tr_value (v := ?_) (w1 := ?_) (a' := ?_) rfl rfl (by rfl) ?_ ?_ ?_ ?_; rotate_left 3; (· go_simp; refine ⟨?_, ?_⟩ <;> with_reducible rfl); (· exact hYd.alloc _); (· simp only [Act.put, List.setIfInBounds_toArray, List.set_cons_zero, List.set_cons_succ]; rfl))
                all_goals refine tr_two ?_ ?_
                all_goals (refine tr_value (v := ?_) (w1 := ?_) (a' := ?_) rfl rfl (by rfl) ?_ ?_ ?_ ?_; rotate_left 3; (· go_simp; refine ⟨?_, ?_⟩ <;> with_reducible rfl); (· exact (hYd.alloc _).alloc _); (· simp only [Act.put, List.setIfInBounds_toArray, List.set_cons_zero, List.set_cons_succ]; rfl))
                all_goals (refine tr_value (v := ?_) (w1 := ?_) (a' := ?_) rfl rfl (by rfl) ?_ ?_ ?_ ?_; rotate_left 3; (· go_simp; refine ⟨?_, ?_⟩ <;> with_reducible rfl); (· exact ((hYd.alloc _).alloc _).alloc _); (· simp only [Act.put, List.setIfInBounds_toArray, List.set_cons_zero, List.set_cons_succ]; rfl))
                all_goals (refine tr_store (w1 := ?_) rfl (by rfl) rfl ?_ ?_ ?_; rotate_left 1; (· go_simp; with_reducible rfl); (· exact ((hYd.alloc _).alloc _).alloc _))
                all_goals (refine tr_store (w1 := ?_) rfl (by rfl) rfl ?_ ?_ ?_; rotate_left 1; (· go_simp; with_reducible rfl); (· exact ((hYd.alloc _).alloc _).alloc _))
                all_goals (refine tr_store (w1 := ?_) rfl (by rfl) rfl ?_ ?_ ?_; rotate_left 1; (· go_simp; with_reducible rfl); (· exact ((hYd.alloc _).alloc _).alloc _))
                all_goals refine tr_end (NoPanic.normal ?_)
                all_goals (generalize wd.heap.size + 1 + 1 = p3 at hT ⊢; generalize wd.heap.size + 1 = p2 at hT ⊢; generalize wd.heap.size = p1 at hT ⊢; generalize ((wd.alloc (.cells #[.string r.ten, .int .i64 r.clock, .int .i64 r.kind, .int .i64 r.code, .int .i64 r.id, .string r.st, .string r.su, .int .i64 r.slot, .int .i64 r.uses, .int .i64 r.num, .slice A k c] 25)).alloc (.cells #[.string r.ten, .int .i64 r.clock, .int .i64 r.kind, .int .i64 r.code, .int .i64 r.id, .string r.st, .string r.su, .int .i64 r.slot, .int .i64 r.uses, .int .i64 r.num, .slice A k c] 25)).alloc (.cells #[.string r.ten, .int .i64 r.clock, .int .i64 r.kind, .int .i64 r.code, .int .i64 r.id, .string r.st, .string r.su, .int .i64 r.slot, .int .i64 r.uses, .int .i64 r.num, .slice A k c] 25) = w3 at hT ⊢)
                all_goals first | exact key p1 p2 p3 w3 hT | exact key p2 p1 p3 w3 hT.swap | exact key p2 p3 p1 w3 hT.rot | exact key p3 p1 p2 w3 hT.rot.rot | exact key p3 p2 p1 w3 hT.rot.swap | exact key p1 p3 p2 w3 hT.rot.rot.swap
              intro p1 p2 p3 w3 hT
              have g1 := hT.ka.cell 7 (v := .int .i64 r.slot) rfl
              have g2 := hT.kb.cell 9 (v := .int .i64 r.num) rfl
              have g3 := hT.kc.cell 8 (v := .int .i64 r.uses) rfl
              have f1 := hT.ka.frozen 7
              have f2 := hT.kb.frozen 9
              have f3 := hT.kc.frozen 8
              go_upto_region 11 with fail
              have Ka := (((hT.ka.set_ 7 (.int .i64 (1 + (i : Int)))).far (p := ⟨p2, 9, none⟩) hT.ab (.int .i64 (1 + (i : Int)))).far (p := ⟨p3, 8, none⟩) hT.ac (.int .i64 (1 + (i : Int))))
              have Kb := (((hT.kb.far (p := ⟨p1, 7, none⟩) hT.ab.symm (.int .i64 (1 + (i : Int)))).set_ 9 (.int .i64 (1 + (i : Int)))).far (p := ⟨p3, 8, none⟩) hT.bc (.int .i64 (1 + (i : Int))))
              have Kc := (((hT.kc.far (p := ⟨p1, 7, none⟩) hT.ac.symm (.int .i64 (1 + (i : Int)))).far (p := ⟨p2, 9, none⟩) hT.bc.symm (.int .i64 (1 + (i : Int)))).set_ 8 (.int .i64 (1 + (i : Int))))
              simp only [List.setIfInBounds_toArray, List.set_cons_zero, List.set_cons_succ] at Ka Kb Kc
              have hX4 : Ext W _ := ((hT.ext.set (p := ⟨p1, 7, none⟩) hT.ha (.int .i64 (1 + (i : Int)))).set (p := ⟨p2, 9, none⟩) hT.hb (.int .i64 (1 + (i : Int)))).set (p := ⟨p3, 8, none⟩) hT.hc (.int .i64 (1 + (i : Int)))
              generalize ((w3.setCell ⟨p1, 7, none⟩ (.int .i64 (1 + (i : Int)))).setCell ⟨p2, 9, none⟩ (.int .i64 (1 + (i : Int)))).setCell ⟨p3, 8, none⟩ (.int .i64 (1 + (i : Int))) = w4 at Ka Kb Kc hX4 ⊢
              clear g1 g2 g3 f1 f2 f3 hT hYd
              have ac0 := Ka.cell 0 (v := .string r.ten) rfl
              have ar0 := fun (w' : World) (h : Ext w4 w') => h.cellk ac0
              have ac1 := Ka.cell 1 (v := .int .i64 r.clock) rfl
              have ar1 := fun (w' : World) (h : Ext w4 w') => h.cellk ac1
              have ac2 := Ka.cell 2 (v := .int .i64 r.kind) rfl
              have ar2 := fun (w' : World) (h : Ext w4 w') => h.cellk ac2
              have ac3 := Ka.cell 3 (v := .int .i64 r.code) rfl
              have ar3 := fun (w' : World) (h : Ext w4 w') => h.cellk ac3
              have ac4 := Ka.cell 4 (v := .int .i64 r.id) rfl
              have ar4 := fun (w' : World) (h : Ext w4 w') => h.cellk ac4
              have ac5 := Ka.cell 5 (v := .string r.st) rfl
              have ar5 := fun (w' : World) (h : Ext w4 w') => h.cellk ac5
              have ac6 := Ka.cell 6 (v := .string r.su) rfl
              have ar6 := fun (w' : World) (h : Ext w4 w') => h.cellk ac6
              have ac7 := Ka.cell 7 (v := .int .i64 (1 + (i : Int))) rfl
              have ar7 := fun (w' : World) (h : Ext w4 w') => h.cellk ac7
              have ac8 := Ka.cell 8 (v := .int .i64 r.uses) rfl
              have ar8 := fun (w' : World) (h : Ext w4 w') => h.cellk ac8
              have ac9 := Ka.cell 9 (v := .int .i64 r.num) rfl
              have ar9 := fun (w' : World) (h : Ext w4 w') => h.cellk ac9
              have ac10 := Ka.cell 10 (v := .slice A k c) rfl
              have ar10 := fun (w' : World) (h : Ext w4 w') => h.cellk ac10
              have bc0 := Kb.cell 0 (v := .string r.ten) rfl
              have br0 := fun (w' : World) (h : Ext w4 w') => h.cellk bc0
              have bc1 := Kb.cell 1 (v := .int .i64 r.clock) rfl
              have br1 := fun (w' : World) (h : Ext w4 w') => h.cellk bc1
              have bc2 := Kb.cell 2 (v := .int .i64 r.kind) rfl
              have br2 := fun (w' : World) (h : Ext w4 w') => h.cellk bc2
              have bc3 := Kb.cell 3 (v := .int .i64 r.code) rfl
              have br3 := fun (w' : World) (h : Ext w4 w') => h.cellk bc3
              have bc4 := Kb.cell 4 (v := .int .i64 r.id) rfl
              have br4 := fun (w' : World) (h : Ext w4 w') => h.cellk bc4
              have bc5 := Kb.cell 5 (v := .string r.st) rfl
              have br5 := fun (w' : World) (h : Ext w4 w') => h.cellk bc5
              have bc6 := Kb.cell 6 (v := .string r.su) rfl
              have br6 := fun (w' : World) (h : Ext w4 w') => h.cellk bc6
              have bc7 := Kb.cell 7 (v := .int .i64 r.slot) rfl
              have br7 := fun (w' : World) (h : Ext w4 w') => h.cellk bc7
              have bc8 := Kb.cell 8 (v := .int .i64 r.uses) rfl
              have br8 := fun (w' : World) (h : Ext w4 w') => h.cellk bc8
              have bc9 := Kb.cell 9 (v := .int .i64 (1 + (i : Int))) rfl
              have br9 := fun (w' : World) (h : Ext w4 w') => h.cellk bc9
              have bc10 := Kb.cell 10 (v := .slice A k c) rfl
              have br10 := fun (w' : World) (h : Ext w4 w') => h.cellk bc10
              have dc0 := Kc.cell 0 (v := .string r.ten) rfl
              have dr0 := fun (w' : World) (h : Ext w4 w') => h.cellk dc0
              have dc1 := Kc.cell 1 (v := .int .i64 r.clock) rfl
              have dr1 := fun (w' : World) (h : Ext w4 w') => h.cellk dc1
              have dc2 := Kc.cell 2 (v := .int .i64 r.kind) rfl
              have dr2 := fun (w' : World) (h : Ext w4 w') => h.cellk dc2
              have dc3 := Kc.cell 3 (v := .int .i64 r.code) rfl
              have dr3 := fun (w' : World) (h : Ext w4 w') => h.cellk dc3
              have dc4 := Kc.cell 4 (v := .int .i64 r.id) rfl
              have dr4 := fun (w' : World) (h : Ext w4 w') => h.cellk dc4
              have dc5 := Kc.cell 5 (v := .string r.st) rfl
              have dr5 := fun (w' : World) (h : Ext w4 w') => h.cellk dc5
              have dc6 := Kc.cell 6 (v := .string r.su) rfl
              have dr6 := fun (w' : World) (h : Ext w4 w') => h.cellk dc6
              have dc7 := Kc.cell 7 (v := .int .i64 r.slot) rfl
              have dr7 := fun (w' : World) (h : Ext w4 w') => h.cellk dc7
              have dc8 := Kc.cell 8 (v := .int .i64 (1 + (i : Int))) rfl
              have dr8 := fun (w' : World) (h : Ext w4 w') => h.cellk dc8
              have dc9 := Kc.cell 9 (v := .int .i64 r.num) rfl
              have dr9 := fun (w' : World) (h : Ext w4 w') => h.cellk dc9
              have dc10 := Kc.cell 10 (v := .slice A k c) rfl
              have dr10 := fun (w' : World) (h : Ext w4 w') => h.cellk dc10
              have hY4 : Ext w4 w4 := Ext.refl w4
              have hc1 := fun (w' : World) (h : Ext W w') => check_any w' { r with slot := (1 + (i : Int)) } A c (by show rdB.Sl w' A r.sealed.length r.sealed; rw [HK.out]; exact hSW.ext h) (by show r.sealed.length ≤ c; rw [HK.out]; exact hc) (by have := hok.n; exact Nat.le_trans this (by decide)) (fun x hx => by have := hok.m x hx; omega) (Nat.le_trans hok.ten (by decide)) (Nat.le_trans hok.st (by decide)) (Nat.le_trans hok.su (by decide))
              dsimp only at hc1
              rw [HK.out] at hc1
              obtain ⟨ca, hca⟩ : ∃ v, checkG { r with slot := (1 + (i : Int)) } = v := ⟨_, rfl⟩
              rw [hca] at hc1
              have hc2 := fun (w' : World) (h : Ext W w') => check_any w' { r with num := (1 + (i : Int)) } A c (by show rdB.Sl w' A r.sealed.length r.sealed; rw [HK.out]; exact hSW.ext h) (by show r.sealed.length ≤ c; rw [HK.out]; exact hc) (by have := hok.n; exact Nat.le_trans this (by decide)) (fun x hx => by have := hok.m x hx; omega) (Nat.le_trans hok.ten (by decide)) (Nat.le_trans hok.st (by decide)) (Nat.le_trans hok.su (by decide))
              dsimp only at hc2
              rw [HK.out] at hc2
              obtain ⟨cb, hcb⟩ : ∃ v, checkG { r with num := (1 + (i : Int)) } = v := ⟨_, rfl⟩
              rw [hcb] at hc2
              have hc3 := fun (w' : World) (h : Ext W w') => check_any w' { r with uses := (1 + (i : Int)) } A c (by show rdB.Sl w' A r.sealed.length r.sealed; rw [HK.out]; exact hSW.ext h) (by show r.sealed.length ≤ c; rw [HK.out]; exact hc) (by have := hok.n; exact Nat.le_trans this (by decide)) (fun x hx => by have := hok.m x hx; omega) (Nat.le_trans hok.ten (by decide)) (Nat.le_trans hok.st (by decide)) (Nat.le_trans hok.su (by decide))
              dsimp only at hc3
              rw [HK.out] at hc3
              obtain ⟨cc, hcc⟩ : ∃ v, checkG { r with uses := (1 + (i : Int)) } = v := ⟨_, rfl⟩
              rw [hcc] at hc3
              have q1 : (ca == 0) = false := by have hc0 := HC0.out; have hq := HQ.out; rw [Bool.eq_iff_iff, beq_iff_eq, ← hca, set_slot HZ.out _ (by omega) (by omega)]; simp [appR, hc0, hq]
              have q2 : (cb == 0) = true := by have hc0 := HC0.out; have hq := HQ.out; rw [Bool.eq_iff_iff, beq_iff_eq, ← hcb, set_num HZ.out _ (by omega) (by omega)]; simp [numR, hc0, hq]
              have q3 : (cc == 0) = false := by have hc0 := HC0.out; have hq := HQ.out; rw [Bool.eq_iff_iff, beq_iff_eq, ← hcc, set_uses HZ.out _ (by omega) (by omega)]; simp [appR, hc0, hq]
              have q4 : decide ((0 : Int) < (k : Int)) = false := by have hc0 := HC0.out; have hq := HQ.out; rw [Bool.eq_iff_iff, decide_eq_true_iff, ← HK.out, Int.natCast_pos, ← app_len HZ.out]; simp [appR, hc0, hq]
              have q5 : decide (0 < k) = false := by rw [← q4]; simp
              clear hca hcb hcc
              go_upto_region 13 with (first | (go_at_call 14; (with_reducible refine (hc1 _ hX4).mono ?_); rintro e w5 ⟨rfl, hE5⟩; have hX5 := hX4.trans hE5) | (go_at_call 14; (with_reducible refine (hc2 _ hX5).mono ?_); rintro e w6 ⟨rfl, hE6⟩; have hX6 := hX5.trans hE6; have hZ6 := hE5.trans hE6) | (go_at_call 14; (with_reducible refine (hc3 _ hX6).mono ?_); rintro e w7 ⟨rfl, hE7⟩; have hX7 := hX6.trans hE7))
              obtain ⟨V, hV, hEV, -⟩ := box1 w7 #[.string r.ten, .int .i64 r.clock, .int .i64 r.kind, .int .i64 r.code, .int .i64 r.id, .string r.st, .string r.su, .int .i64 r.slot, .int .i64 r.uses, .int .i64 r.num, .slice A k c] 25
              have Kd : Blk V w7.heap.size 25 #[.string r.ten, .int .i64 r.clock, .int .i64 r.kind, .int .i64 r.code, .int .i64 r.id, .string r.st, .string r.su, .int .i64 r.slot, .int .i64 r.uses, .int .i64 r.num, .slice A k c] := by rw [hV]; exact Blk.new _ _ _
              have hX7l := hX7.le
              have hXV := hX7.trans hEV
              clear Ka Kb Kc hX4 hX5 hX6 hZ6 hc1 hc2 hc3 q1 q2 q3 q4 q5 hY4 hE5 hE6 hE7
              clear ac0 ac1 ac2 ac3 ac4 ac5 ac6 ac7 ac8 ac9 ac10 ar0 ar1 ar2 ar3 ar4 ar5 ar6 ar7 ar8 ar9 ar10 bc0 bc1 bc2 bc3 bc4 bc5 bc6 bc7 bc8 bc9 bc10 br0 br1 br2 br3 br4 br5 br6 br7 br8 br9 br10 dc0 dc1 dc2 dc3 dc4 dc5 dc6 dc7 dc8 dc9 dc10 dr0 dr1 dr2 dr3 dr4 dr5 dr6 dr7 dr8 dr9 dr10
              go_upto_region 14 with fail
              rw [← hV]
              clear hV
              have g4 := Kd.cell 3 (v := .int .i64 r.code) rfl
              have f4 := Kd.frozen 3
              go_upto_region 15 with (go_at_call 24; (with_reducible refine (hpx _).mono ?_); rintro e w8 ⟨j, rfl, hj, rfl⟩; have hj1 : 1 ≤ 1 + (j : Int) := by omega)
              have Ke := Kd.set_ 3 (.int .i64 (1 + (j : Int)))
              simp only [List.setIfInBounds_toArray, List.set_cons_zero, List.set_cons_succ] at Ke
              have hX9 : Ext W _ := hXV.set (p := ⟨w7.heap.size, 3, none⟩) hX7l (.int .i64 (1 + (j : Int)))
              generalize V.setCell ⟨w7.heap.size, 3, none⟩ (.int .i64 (1 + (j : Int))) = w9 at Ke hX9 ⊢
              clear g4 f4 Kd hXV hEV
              have ac0 := Ke.cell 0 (v := .string r.ten) rfl
              have ar0 := fun (w' : World) (h : Ext w9 w') => h.cellk ac0
              have ac1 := Ke.cell 1 (v := .int .i64 r.clock) rfl
              have ar1 := fun (w' : World) (h : Ext w9 w') => h.cellk ac1
              have ac2 := Ke.cell 2 (v := .int .i64 r.kind) rfl
              have ar2 := fun (w' : World) (h : Ext w9 w') => h.cellk ac2
              have ac3 := Ke.cell 3 (v := .int .i64 (1 + (j : Int))) rfl
              have ar3 := fun (w' : World) (h : Ext w9 w') => h.cellk ac3
              have ac4 := Ke.cell 4 (v := .int .i64 r.id) rfl
              have ar4 := fun (w' : World) (h : Ext w9 w') => h.cellk ac4
              have ac5 := Ke.cell 5 (v := .string r.st) rfl
              have ar5 := fun (w' : World) (h : Ext w9 w') => h.cellk ac5
              have ac6 := Ke.cell 6 (v := .string r.su) rfl
              have ar6 := fun (w' : World) (h : Ext w9 w') => h.cellk ac6
              have ac7 := Ke.cell 7 (v := .int .i64 r.slot) rfl
              have ar7 := fun (w' : World) (h : Ext w9 w') => h.cellk ac7
              have ac8 := Ke.cell 8 (v := .int .i64 r.uses) rfl
              have ar8 := fun (w' : World) (h : Ext w9 w') => h.cellk ac8
              have ac9 := Ke.cell 9 (v := .int .i64 r.num) rfl
              have ar9 := fun (w' : World) (h : Ext w9 w') => h.cellk ac9
              have ac10 := Ke.cell 10 (v := .slice A k c) rfl
              have ar10 := fun (w' : World) (h : Ext w9 w') => h.cellk ac10
              have hY9 : Ext w9 w9 := Ext.refl w9
              have hc4 := fun (w' : World) (h : Ext W w') => check_any w' { r with code := (1 + (j : Int)) } A c (by show rdB.Sl w' A r.sealed.length r.sealed; rw [HK.out]; exact hSW.ext h) (by show r.sealed.length ≤ c; rw [HK.out]; exact hc) (by have := hok.n; exact Nat.le_trans this (by decide)) (fun x hx => by have := hok.m x hx; omega) (Nat.le_trans hok.ten (by decide)) (Nat.le_trans hok.st (by decide)) (Nat.le_trans hok.su (by decide))
              dsimp only at hc4
              rw [HK.out] at hc4
              obtain ⟨cd, hcd⟩ : ∃ v, checkG { r with code := (1 + (j : Int)) } = v := ⟨_, rfl⟩
              rw [hcd] at hc4
              have s1 := r7 w9 hX9
              have s2 := r8 w9 hX9
              have s3 := r9 w9 hX9
              have s4 := r10 w9 hX9
              by_cases e1 : r.slot = 0
              · have e1' : (r.slot == 0) = true := by simpa using e1
                by_cases e2 : r.uses = 0
                · have e2' : (r.uses == 0) = true := by simpa using e2
                  by_cases e3 : r.num = 0
                  · have e3' : (r.num == 0) = true := by simpa using e3
                    by_cases e4 : k = 0
                    · have e4' : (((k : Int)) == 0) = true := by simpa using e4
                      have hcd2 : (cd == 0) = true := by rw [Bool.eq_iff_iff, beq_iff_eq, ← hcd, set_code HZ.out _ (by omega) (by omega)]; unfold bareR; rw [HK.out]; simp [e1, e2, e3, e4]
                      clear hcd
                      try clear e1
                      try clear e2
                      try clear e3
                      try clear e4
                      go_wp2_with (first | (go_at_call 14; (with_reducible refine (hc4 _ hX9).mono ?_); rintro e w10 ⟨rfl, hE10⟩; have hX10 := hX9.trans hE10) | (go_at_call 10; (with_reducible refine (hwo _).mono ?_); rintro e w11 ⟨rfl, hE11⟩))
                      go_ret
                      exact ⟨rfl, hE.trans (hX10.trans hE11)⟩
                    · have e4' : (((k : Int)) == 0) = false := by simpa using e4
                      have hcd2 : (cd == 0) = false := by rw [Bool.eq_iff_iff, beq_iff_eq, ← hcd, set_code HZ.out _ (by omega) (by omega)]; unfold bareR; rw [HK.out]; simp [e1, e2, e3, e4]
                      clear hcd
                      try clear e1
                      try clear e2
                      try clear e3
                      try clear e4
                      go_wp2_with (first | (go_at_call 14; (with_reducible refine (hc4 _ hX9).mono ?_); rintro e w10 ⟨rfl, hE10⟩; have hX10 := hX9.trans hE10) | (go_at_call 10; (with_reducible refine (hwo _).mono ?_); rintro e w11 ⟨rfl, hE11⟩))
                      go_ret
                      exact ⟨rfl, hE.trans (hX10.trans hE11)⟩
                  · have e3' : (r.num == 0) = false := by simpa using e3
                    have hcd2 : (cd == 0) = false := by rw [Bool.eq_iff_iff, beq_iff_eq, ← hcd, set_code HZ.out _ (by omega) (by omega)]; unfold bareR; rw [HK.out]; simp [e1, e2, e3]
                    clear hcd
                    try clear e1
                    try clear e2
                    try clear e3
                    try clear e4
                    go_wp2_with (first | (go_at_call 14; (with_reducible refine (hc4 _ hX9).mono ?_); rintro e w10 ⟨rfl, hE10⟩; have hX10 := hX9.trans hE10) | (go_at_call 10; (with_reducible refine (hwo _).mono ?_); rintro e w11 ⟨rfl, hE11⟩))
                    go_ret
                    exact ⟨rfl, hE.trans (hX10.trans hE11)⟩
                · have e2' : (r.uses == 0) = false := by simpa using e2
                  have hcd2 : (cd == 0) = false := by rw [Bool.eq_iff_iff, beq_iff_eq, ← hcd, set_code HZ.out _ (by omega) (by omega)]; unfold bareR; rw [HK.out]; simp [e1, e2]
                  clear hcd
                  try clear e1
                  try clear e2
                  try clear e3
                  try clear e4
                  go_wp2_with (first | (go_at_call 14; (with_reducible refine (hc4 _ hX9).mono ?_); rintro e w10 ⟨rfl, hE10⟩; have hX10 := hX9.trans hE10) | (go_at_call 10; (with_reducible refine (hwo _).mono ?_); rintro e w11 ⟨rfl, hE11⟩))
                  go_ret
                  exact ⟨rfl, hE.trans (hX10.trans hE11)⟩
              · have e1' : (r.slot == 0) = false := by simpa using e1
                have hcd2 : (cd == 0) = false := by rw [Bool.eq_iff_iff, beq_iff_eq, ← hcd, set_code HZ.out _ (by omega) (by omega)]; unfold bareR; rw [HK.out]; simp [e1]
                clear hcd
                try clear e1
                try clear e2
                try clear e3
                try clear e4
                go_wp2_with (first | (go_at_call 14; (with_reducible refine (hc4 _ hX9).mono ?_); rintro e w10 ⟨rfl, hE10⟩; have hX10 := hX9.trans hE10) | (go_at_call 10; (with_reducible refine (hwo _).mono ?_); rintro e w11 ⟨rfl, hE11⟩))
                go_ret
                exact ⟨rfl, hE.trans (hX10.trans hE11)⟩
            · have hb6 : (r.kind == 6) = false := by simpa using hk6
              have HQ := Lib.hid (And.intro hk1 (And.intro hk5 hk6))
              clear hk1 hk5 hk6
              go_upto_region 7 with fail
              refine wp_region_noPanic ?_
              refine tr_start (.y 0 (.y 1 (.y 2 (.three 3 4 5 (.two 4 5 (.e 5 (.e 6 (.e 7 (.e 8 .nil)))) (.e 4 (.e 6 (.e 7 (.e 8 .nil))))) (.two 3 5 (.e 5 (.e 6 (.e 7 (.e 8 .nil)))) (.e 3 (.e 6 (.e 7 (.e 8 .nil))))) (.two 3 4 (.e 4 (.e 6 (.e 7 (.e 8 .nil)))) (.e 3 (.e 6 (.e 7 (.e 8 .nil))))))))) (fun w' => Ext W w') (by kernel_rfl) (by kernel_rfl) (fun _ _ _ _ _ h => h) (by (repeat (first | assumption | exact Ext.refl _ | refine Ext.drew ?_ | refine Ext.alloc ?_ _ | refine Ext.drewN ?_ _ | refine Ext.trans ?_ (by assumption)))) ?_
              have hYd : Ext W w2.drew := by (repeat (first | assumption | exact Ext.refl _ | refine Ext.drew ?_ | refine Ext.alloc ?_ _ | refine Ext.drewN ?_ _ | refine Ext.trans ?_ (by assumption)))
              generalize w2.drew = wd at hYd ⊢
              iterate 3 (first | (refine tr_off (a' := ?_) rfl rfl (by rfl) ?_ ?_; rotate_left 1; (· simp only [Act.put, List.setIfInBounds_toArray, List.set_cons_zero, List.set_cons_succ]; rfl)) | (refine tr_y (v := ?_) (a' := ?_) rfl rfl (by rfl) (fun w' hw' => ?_) ?_ ?_; rotate_left 2; (· go_simp; with_reducible rfl); (· simp only [Act.put, List.setIfInBounds_toArray, List.set_cons_zero, List.set_cons_succ]; rfl)))
              apply key_intro (F := Three3 W #[.string r.ten, .int .i64 r.clock, .int .i64 r.kind, .int .i64 r.code, .int .i64 r.id, .string r.st, .string r.su, .int .i64 r.slot, .int .i64 r.uses, .int .i64 r.num, .slice A k c])
              case h =>
                intro key
                have hT := three_mk hYd #[.string r.ten, .int .i64 r.clock, .int .i64 r.kind, .int .i64 r.code, .int .i64 r.id, .string r.st, .string r.su, .int .i64 r.slot, .int .i64 r.uses, .int .i64 r.num, .slice A k c]
                refine tr_three ?_ ?_ ?_
                all_goals (refine tr_value (v := ?_) (w1 := ?_) (a' := ?_) rfl rfl (by rfl) ?_ ?_ ?_ ?_; rotate_left 3; (· go_simp; refine ⟨?_, ?_⟩ <;> with_reducible rfl); (· exact hYd.alloc _); (· simp only [Act.put, List.setIfInBounds_toArray, List.set_cons_zero, List.set_cons_succ]; rfl))
                all_goals refine tr_two ?_ ?_
                all_goals (refine tr_value (v := ?_) (w1 := ?_) (a' := ?_) rfl rfl (by rfl) ?_ ?_ ?_ ?_; rotate_left 3; (· go_simp; refine ⟨?_, ?_⟩ <;> with_reducible rfl); (· exact (hYd.alloc _).alloc _); (· simp only [Act.put, List.setIfInBounds_toArray, List.set_cons_zero, List.set_cons_succ]; rfl))
                all_goals (refine tr_value (v := ?_) (w1 := ?_) (a' := ?_) rfl rfl (by rfl) ?_ ?_ ?_ ?_; rotate_left 3; (· go_simp; refine ⟨?_, ?_⟩ <;> with_reducible rfl); (· exact ((hYd.alloc _).alloc _).alloc _); (· simp only [Act.put, List.setIfInBounds_toArray, List.set_cons_zero, List.set_cons_succ]; rfl))
                all_goals (refine tr_store (w1 := ?_) rfl (by rfl) rfl ?_ ?_ ?_; rotate_left 1; (· go_simp; with_reducible rfl); (· exact ((hYd.alloc _).alloc _).alloc _))
                all_goals (refine tr_store (w1 := ?_) rfl (by rfl) rfl ?_ ?_ ?_; rotate_left 1; (· go_simp; with_reducible rfl); (· exact ((hYd.alloc _).alloc _).alloc _))
                all_goals (refine tr_store (w1 := ?_) rfl (by rfl) rfl ?_ ?_ ?_; rotate_left 1; (· go_simp; with_reducible rfl); (· exact ((hYd.alloc _).alloc _).alloc _))
                all_goals refine tr_end (NoPanic.normal ?_)
                all_goals (generalize wd.heap.size + 1 + 1 = p3 at hT ⊢; generalize wd.heap.size + 1 = p2 at hT ⊢; generalize wd.heap.size = p1 at hT ⊢; generalize ((wd.alloc (.cells #[.string r.ten, .int .i64 r.clock, .int .i64 r.kind, .int .i64 r.code, .int .i64 r.id, .string r.st, .string r.su, .int .i64 r.slot, .int .i64 r.uses, .int .i64 r.num, .slice A k c] 25)).alloc (.cells #[.string r.ten, .int .i64 r.clock, .int .i64 r.kind, .int .i64 r.code, .int .i64 r.id, .string r.st, .string r.su, .int .i64 r.slot, .int .i64 r.uses, .int .i64 r.num, .slice A k c] 25)).alloc (.cells #[.string r.ten, .int .i64 r.clock, .int .i64 r.kind, .int .i64 r.code, .int .i64 r.id, .string r.st, .string r.su, .int .i64 r.slot, .int .i64 r.uses, .int .i64 r.num, .slice A k c] 25) = w3 at hT ⊢)
                all_goals first | exact key p1 p2 p3 w3 hT | exact key p2 p1 p3 w3 hT.swap | exact key p2 p3 p1 w3 hT.rot | exact key p3 p1 p2 w3 hT.rot.rot | exact key p3 p2 p1 w3 hT.rot.swap | exact key p1 p3 p2 w3 hT.rot.rot.swap
              intro p1 p2 p3 w3 hT
              have g1 := hT.ka.cell 7 (v := .int .i64 r.slot) rfl
              have g2 := hT.kb.cell 9 (v := .int .i64 r.num) rfl
              have g3 := hT.kc.cell 8 (v := .int .i64 r.uses) rfl
              have f1 := hT.ka.frozen 7
              have f2 := hT.kb.frozen 9
              have f3 := hT.kc.frozen 8
              go_upto_region 11 with fail
              have Ka := (((hT.ka.set_ 7 (.int .i64 (1 + (i : Int)))).far (p := ⟨p2, 9, none⟩) hT.ab (.int .i64 (1 + (i : Int)))).far (p := ⟨p3, 8, none⟩) hT.ac (.int .i64 (1 + (i : Int))))
              have Kb := (((hT.kb.far (p := ⟨p1, 7, none⟩) hT.ab.symm (.int .i64 (1 + (i : Int)))).set_ 9 (.int .i64 (1 + (i : Int)))).far (p := ⟨p3, 8, none⟩) hT.bc (.int .i64 (1 + (i : Int))))
              have Kc := (((hT.kc.far (p := ⟨p1, 7, none⟩) hT.ac.symm (.int .i64 (1 + (i : Int)))).far (p := ⟨p2, 9, none⟩) hT.bc.symm (.int .i64 (1 + (i : Int)))).set_ 8 (.int .i64 (1 + (i : Int))))
              simp only [List.setIfInBounds_toArray, List.set_cons_zero, List.set_cons_succ] at Ka Kb Kc
              have hX4 : Ext W _ := ((hT.ext.set (p := ⟨p1, 7, none⟩) hT.ha (.int .i64 (1 + (i : Int)))).set (p := ⟨p2, 9, none⟩) hT.hb (.int .i64 (1 + (i : Int)))).set (p := ⟨p3, 8, none⟩) hT.hc (.int .i64 (1 + (i : Int)))
              generalize ((w3.setCell ⟨p1, 7, none⟩ (.int .i64 (1 + (i : Int)))).setCell ⟨p2, 9, none⟩ (.int .i64 (1 + (i : Int)))).setCell ⟨p3, 8, none⟩ (.int .i64 (1 + (i : Int))) = w4 at Ka Kb Kc hX4 ⊢
              clear g1 g2 g3 f1 f2 f3 hT hYd
              have ac0 := Ka.cell 0 (v := .string r.ten) rfl
              have ar0 := fun (w' : World) (h : Ext w4 w') => h.cellk ac0
              have ac1 := Ka.cell 1 (v := .int .i64 r.clock) rfl
              have ar1 := fun (w' : World) (h : Ext w4 w') => h.cellk ac1
              have ac2 := Ka.cell 2 (v := .int .i64 r.kind) rfl
              have ar2 := fun (w' : World) (h : Ext w4 w') => h.cellk ac2
              have ac3 := Ka.cell 3 (v := .int .i64 r.code) rfl
              have ar3 := fun (w' : World) (h : Ext w4 w') => h.cellk ac3
              have ac4 := Ka.cell 4 (v := .int .i64 r.id) rfl
              have ar4 := fun (w' : World) (h : Ext w4 w') => h.cellk ac4
              have ac5 := Ka.cell 5 (v := .string r.st) rfl
              have ar5 := fun (w' : World) (h : Ext w4 w') => h.cellk ac5
              have ac6 := Ka.cell 6 (v := .string r.su) rfl
              have ar6 := fun (w' : World) (h : Ext w4 w') => h.cellk ac6
              have ac7 := Ka.cell 7 (v := .int .i64 (1 + (i : Int))) rfl
              have ar7 := fun (w' : World) (h : Ext w4 w') => h.cellk ac7
              have ac8 := Ka.cell 8 (v := .int .i64 r.uses) rfl
              have ar8 := fun (w' : World) (h : Ext w4 w') => h.cellk ac8
              have ac9 := Ka.cell 9 (v := .int .i64 r.num) rfl
              have ar9 := fun (w' : World) (h : Ext w4 w') => h.cellk ac9
              have ac10 := Ka.cell 10 (v := .slice A k c) rfl
              have ar10 := fun (w' : World) (h : Ext w4 w') => h.cellk ac10
              have bc0 := Kb.cell 0 (v := .string r.ten) rfl
              have br0 := fun (w' : World) (h : Ext w4 w') => h.cellk bc0
              have bc1 := Kb.cell 1 (v := .int .i64 r.clock) rfl
              have br1 := fun (w' : World) (h : Ext w4 w') => h.cellk bc1
              have bc2 := Kb.cell 2 (v := .int .i64 r.kind) rfl
              have br2 := fun (w' : World) (h : Ext w4 w') => h.cellk bc2
              have bc3 := Kb.cell 3 (v := .int .i64 r.code) rfl
              have br3 := fun (w' : World) (h : Ext w4 w') => h.cellk bc3
              have bc4 := Kb.cell 4 (v := .int .i64 r.id) rfl
              have br4 := fun (w' : World) (h : Ext w4 w') => h.cellk bc4
              have bc5 := Kb.cell 5 (v := .string r.st) rfl
              have br5 := fun (w' : World) (h : Ext w4 w') => h.cellk bc5
              have bc6 := Kb.cell 6 (v := .string r.su) rfl
              have br6 := fun (w' : World) (h : Ext w4 w') => h.cellk bc6
              have bc7 := Kb.cell 7 (v := .int .i64 r.slot) rfl
              have br7 := fun (w' : World) (h : Ext w4 w') => h.cellk bc7
              have bc8 := Kb.cell 8 (v := .int .i64 r.uses) rfl
              have br8 := fun (w' : World) (h : Ext w4 w') => h.cellk bc8
              have bc9 := Kb.cell 9 (v := .int .i64 (1 + (i : Int))) rfl
              have br9 := fun (w' : World) (h : Ext w4 w') => h.cellk bc9
              have bc10 := Kb.cell 10 (v := .slice A k c) rfl
              have br10 := fun (w' : World) (h : Ext w4 w') => h.cellk bc10
              have dc0 := Kc.cell 0 (v := .string r.ten) rfl
              have dr0 := fun (w' : World) (h : Ext w4 w') => h.cellk dc0
              have dc1 := Kc.cell 1 (v := .int .i64 r.clock) rfl
              have dr1 := fun (w' : World) (h : Ext w4 w') => h.cellk dc1
              have dc2 := Kc.cell 2 (v := .int .i64 r.kind) rfl
              have dr2 := fun (w' : World) (h : Ext w4 w') => h.cellk dc2
              have dc3 := Kc.cell 3 (v := .int .i64 r.code) rfl
              have dr3 := fun (w' : World) (h : Ext w4 w') => h.cellk dc3
              have dc4 := Kc.cell 4 (v := .int .i64 r.id) rfl
              have dr4 := fun (w' : World) (h : Ext w4 w') => h.cellk dc4
              have dc5 := Kc.cell 5 (v := .string r.st) rfl
              have dr5 := fun (w' : World) (h : Ext w4 w') => h.cellk dc5
              have dc6 := Kc.cell 6 (v := .string r.su) rfl
              have dr6 := fun (w' : World) (h : Ext w4 w') => h.cellk dc6
              have dc7 := Kc.cell 7 (v := .int .i64 r.slot) rfl
              have dr7 := fun (w' : World) (h : Ext w4 w') => h.cellk dc7
              have dc8 := Kc.cell 8 (v := .int .i64 (1 + (i : Int))) rfl
              have dr8 := fun (w' : World) (h : Ext w4 w') => h.cellk dc8
              have dc9 := Kc.cell 9 (v := .int .i64 r.num) rfl
              have dr9 := fun (w' : World) (h : Ext w4 w') => h.cellk dc9
              have dc10 := Kc.cell 10 (v := .slice A k c) rfl
              have dr10 := fun (w' : World) (h : Ext w4 w') => h.cellk dc10
              have hY4 : Ext w4 w4 := Ext.refl w4
              have hc1 := fun (w' : World) (h : Ext W w') => check_any w' { r with slot := (1 + (i : Int)) } A c (by show rdB.Sl w' A r.sealed.length r.sealed; rw [HK.out]; exact hSW.ext h) (by show r.sealed.length ≤ c; rw [HK.out]; exact hc) (by have := hok.n; exact Nat.le_trans this (by decide)) (fun x hx => by have := hok.m x hx; omega) (Nat.le_trans hok.ten (by decide)) (Nat.le_trans hok.st (by decide)) (Nat.le_trans hok.su (by decide))
              dsimp only at hc1
              rw [HK.out] at hc1
              obtain ⟨ca, hca⟩ : ∃ v, checkG { r with slot := (1 + (i : Int)) } = v := ⟨_, rfl⟩
              rw [hca] at hc1
              have hc2 := fun (w' : World) (h : Ext W w') => check_any w' { r with num := (1 + (i : Int)) } A c (by show rdB.Sl w' A r.sealed.length r.sealed; rw [HK.out]; exact hSW.ext h) (by show r.sealed.length ≤ c; rw [HK.out]; exact hc) (by have := hok.n; exact Nat.le_trans this (by decide)) (fun x hx => by have := hok.m x hx; omega) (Nat.le_trans hok.ten (by decide)) (Nat.le_trans hok.st (by decide)) (Nat.le_trans hok.su (by decide))
              dsimp only at hc2
              rw [HK.out] at hc2
              obtain ⟨cb, hcb⟩ : ∃ v, checkG { r with num := (1 + (i : Int)) } = v := ⟨_, rfl⟩
              rw [hcb] at hc2
              have hc3 := fun (w' : World) (h : Ext W w') => check_any w' { r with uses := (1 + (i : Int)) } A c (by show rdB.Sl w' A r.sealed.length r.sealed; rw [HK.out]; exact hSW.ext h) (by show r.sealed.length ≤ c; rw [HK.out]; exact hc) (by have := hok.n; exact Nat.le_trans this (by decide)) (fun x hx => by have := hok.m x hx; omega) (Nat.le_trans hok.ten (by decide)) (Nat.le_trans hok.st (by decide)) (Nat.le_trans hok.su (by decide))
              dsimp only at hc3
              rw [HK.out] at hc3
              obtain ⟨cc, hcc⟩ : ∃ v, checkG { r with uses := (1 + (i : Int)) } = v := ⟨_, rfl⟩
              rw [hcc] at hc3
              have q1 : (ca == 0) = false := by have hc0 := HC0.out; have hq := HQ.out; rw [Bool.eq_iff_iff, beq_iff_eq, ← hca, set_slot HZ.out _ (by omega) (by omega)]; simp [appR, hc0, hq]
              have q2 : (cb == 0) = false := by have hc0 := HC0.out; have hq := HQ.out; rw [Bool.eq_iff_iff, beq_iff_eq, ← hcb, set_num HZ.out _ (by omega) (by omega)]; simp [numR, hc0, hq]
              have q3 : (cc == 0) = false := by have hc0 := HC0.out; have hq := HQ.out; rw [Bool.eq_iff_iff, beq_iff_eq, ← hcc, set_uses HZ.out _ (by omega) (by omega)]; simp [appR, hc0, hq]
              have q4 : decide ((0 : Int) < (k : Int)) = false := by have hc0 := HC0.out; have hq := HQ.out; rw [Bool.eq_iff_iff, decide_eq_true_iff, ← HK.out, Int.natCast_pos, ← app_len HZ.out]; simp [appR, hc0, hq]
              have q5 : decide (0 < k) = false := by rw [← q4]; simp
              clear hca hcb hcc
              go_upto_region 13 with (first | (go_at_call 14; (with_reducible refine (hc1 _ hX4).mono ?_); rintro e w5 ⟨rfl, hE5⟩; have hX5 := hX4.trans hE5) | (go_at_call 14; (with_reducible refine (hc2 _ hX5).mono ?_); rintro e w6 ⟨rfl, hE6⟩; have hX6 := hX5.trans hE6; have hZ6 := hE5.trans hE6) | (go_at_call 14; (with_reducible refine (hc3 _ hX6).mono ?_); rintro e w7 ⟨rfl, hE7⟩; have hX7 := hX6.trans hE7))
              obtain ⟨V, hV, hEV, -⟩ := box1 w7 #[.string r.ten, .int .i64 r.clock, .int .i64 r.kind, .int .i64 r.code, .int .i64 r.id, .string r.st, .string r.su, .int .i64 r.slot, .int .i64 r.uses, .int .i64 r.num, .slice A k c] 25
              have Kd : Blk V w7.heap.size 25 #[.string r.ten, .int .i64 r.clock, .int .i64 r.kind, .int .i64 r.code, .int .i64 r.id, .string r.st, .string r.su, .int .i64 r.slot, .int .i64 r.uses, .int .i64 r.num, .slice A k c] := by rw [hV]; exact Blk.new _ _ _
              have hX7l := hX7.le
              have hXV := hX7.trans hEV
              clear Ka Kb Kc hX4 hX5 hX6 hZ6 hc1 hc2 hc3 q1 q2 q3 q4 q5 hY4 hE5 hE6 hE7
              clear ac0 ac1 ac2 ac3 ac4 ac5 ac6 ac7 ac8 ac9 ac10 ar0 ar1 ar2 ar3 ar4 ar5 ar6 ar7 ar8 ar9 ar10 bc0 bc1 bc2 bc3 bc4 bc5 bc6 bc7 bc8 bc9 bc10 br0 br1 br2 br3 br4 br5 br6 br7 br8 br9 br10 dc0 dc1 dc2 dc3 dc4 dc5 dc6 dc7 dc8 dc9 dc10 dr0 dr1 dr2 dr3 dr4 dr5 dr6 dr7 dr8 dr9 dr10
              go_upto_region 14 with fail
              rw [← hV]
              clear hV
              have g4 := Kd.cell 3 (v := .int .i64 r.code) rfl
              have f4 := Kd.frozen 3
              go_upto_region 15 with (go_at_call 24; (with_reducible refine (hpx _).mono ?_); rintro e w8 ⟨j, rfl, hj, rfl⟩; have hj1 : 1 ≤ 1 + (j : Int) := by omega)
              have Ke := Kd.set_ 3 (.int .i64 (1 + (j : Int)))
              simp only [List.setIfInBounds_toArray, List.set_cons_zero, List.set_cons_succ] at Ke
              have hX9 : Ext W _ := hXV.set (p := ⟨w7.heap.size, 3, none⟩) hX7l (.int .i64 (1 + (j : Int)))
              generalize V.setCell ⟨w7.heap.size, 3, none⟩ (.int .i64 (1 + (j : Int))) = w9 at Ke hX9 ⊢
              clear g4 f4 Kd hXV hEV
              have ac0 := Ke.cell 0 (v := .string r.ten) rfl
              have ar0 := fun (w' : World) (h : Ext w9 w') => h.cellk ac0
              have ac1 := Ke.cell 1 (v := .int .i64 r.clock) rfl
              have ar1 := fun (w' : World) (h : Ext w9 w') => h.cellk ac1
              have ac2 := Ke.cell 2 (v := .int .i64 r.kind) rfl
              have ar2 := fun (w' : World) (h : Ext w9 w') => h.cellk ac2
              have ac3 := Ke.cell 3 (v := .int .i64 (1 + (j : Int))) rfl
              have ar3 := fun (w' : World) (h : Ext w9 w') => h.cellk ac3
              have ac4 := Ke.cell 4 (v := .int .i64 r.id) rfl
              have ar4 := fun (w' : World) (h : Ext w9 w') => h.cellk ac4
              have ac5 := Ke.cell 5 (v := .string r.st) rfl
              have ar5 := fun (w' : World) (h : Ext w9 w') => h.cellk ac5
              have ac6 := Ke.cell 6 (v := .string r.su) rfl
              have ar6 := fun (w' : World) (h : Ext w9 w') => h.cellk ac6
              have ac7 := Ke.cell 7 (v := .int .i64 r.slot) rfl
              have ar7 := fun (w' : World) (h : Ext w9 w') => h.cellk ac7
              have ac8 := Ke.cell 8 (v := .int .i64 r.uses) rfl
              have ar8 := fun (w' : World) (h : Ext w9 w') => h.cellk ac8
              have ac9 := Ke.cell 9 (v := .int .i64 r.num) rfl
              have ar9 := fun (w' : World) (h : Ext w9 w') => h.cellk ac9
              have ac10 := Ke.cell 10 (v := .slice A k c) rfl
              have ar10 := fun (w' : World) (h : Ext w9 w') => h.cellk ac10
              have hY9 : Ext w9 w9 := Ext.refl w9
              have hc4 := fun (w' : World) (h : Ext W w') => check_any w' { r with code := (1 + (j : Int)) } A c (by show rdB.Sl w' A r.sealed.length r.sealed; rw [HK.out]; exact hSW.ext h) (by show r.sealed.length ≤ c; rw [HK.out]; exact hc) (by have := hok.n; exact Nat.le_trans this (by decide)) (fun x hx => by have := hok.m x hx; omega) (Nat.le_trans hok.ten (by decide)) (Nat.le_trans hok.st (by decide)) (Nat.le_trans hok.su (by decide))
              dsimp only at hc4
              rw [HK.out] at hc4
              obtain ⟨cd, hcd⟩ : ∃ v, checkG { r with code := (1 + (j : Int)) } = v := ⟨_, rfl⟩
              rw [hcd] at hc4
              have s1 := r7 w9 hX9
              have s2 := r8 w9 hX9
              have s3 := r9 w9 hX9
              have s4 := r10 w9 hX9
              by_cases e1 : r.slot = 0
              · have e1' : (r.slot == 0) = true := by simpa using e1
                by_cases e2 : r.uses = 0
                · have e2' : (r.uses == 0) = true := by simpa using e2
                  by_cases e3 : r.num = 0
                  · have e3' : (r.num == 0) = true := by simpa using e3
                    by_cases e4 : k = 0
                    · have e4' : (((k : Int)) == 0) = true := by simpa using e4
                      have hcd2 : (cd == 0) = true := by rw [Bool.eq_iff_iff, beq_iff_eq, ← hcd, set_code HZ.out _ (by omega) (by omega)]; unfold bareR; rw [HK.out]; simp [e1, e2, e3, e4]
                      clear hcd
                      try clear e1
                      try clear e2
                      try clear e3
                      try clear e4
                      go_wp2_with (first | (go_at_call 14; (with_reducible refine (hc4 _ hX9).mono ?_); rintro e w10 ⟨rfl, hE10⟩; have hX10 := hX9.trans hE10) | (go_at_call 10; (with_reducible refine (hwo _).mono ?_); rintro e w11 ⟨rfl, hE11⟩))
                      go_ret
                      exact ⟨rfl, hE.trans (hX10.trans hE11)⟩
                    · have e4' : (((k : Int)) == 0) = false := by simpa using e4
                      have hcd2 : (cd == 0) = false := by rw [Bool.eq_iff_iff, beq_iff_eq, ← hcd, set_code HZ.out _ (by omega) (by omega)]; unfold bareR; rw [HK.out]; simp [e1, e2, e3, e4]
                      clear hcd
                      try clear e1
                      try clear e2
                      try clear e3
                      try clear e4
                      go_wp2_with (first | (go_at_call 14; (with_reducible refine (hc4 _ hX9).mono ?_); rintro e w10 ⟨rfl, hE10⟩; have hX10 := hX9.trans hE10) | (go_at_call 10; (with_reducible refine (hwo _).mono ?_); rintro e w11 ⟨rfl, hE11⟩))
                      go_ret
                      exact ⟨rfl, hE.trans (hX10.trans hE11)⟩
                  · have e3' : (r.num == 0) = false := by simpa using e3
                    have hcd2 : (cd == 0) = false := by rw [Bool.eq_iff_iff, beq_iff_eq, ← hcd, set_code HZ.out _ (by omega) (by omega)]; unfold bareR; rw [HK.out]; simp [e1, e2, e3]
                    clear hcd
                    try clear e1
                    try clear e2
                    try clear e3
                    try clear e4
                    go_wp2_with (first | (go_at_call 14; (with_reducible refine (hc4 _ hX9).mono ?_); rintro e w10 ⟨rfl, hE10⟩; have hX10 := hX9.trans hE10) | (go_at_call 10; (with_reducible refine (hwo _).mono ?_); rintro e w11 ⟨rfl, hE11⟩))
                    go_ret
                    exact ⟨rfl, hE.trans (hX10.trans hE11)⟩
                · have e2' : (r.uses == 0) = false := by simpa using e2
                  have hcd2 : (cd == 0) = false := by rw [Bool.eq_iff_iff, beq_iff_eq, ← hcd, set_code HZ.out _ (by omega) (by omega)]; unfold bareR; rw [HK.out]; simp [e1, e2]
                  clear hcd
                  try clear e1
                  try clear e2
                  try clear e3
                  try clear e4
                  go_wp2_with (first | (go_at_call 14; (with_reducible refine (hc4 _ hX9).mono ?_); rintro e w10 ⟨rfl, hE10⟩; have hX10 := hX9.trans hE10) | (go_at_call 10; (with_reducible refine (hwo _).mono ?_); rintro e w11 ⟨rfl, hE11⟩))
                  go_ret
                  exact ⟨rfl, hE.trans (hX10.trans hE11)⟩
              · have e1' : (r.slot == 0) = false := by simpa using e1
                have hcd2 : (cd == 0) = false := by rw [Bool.eq_iff_iff, beq_iff_eq, ← hcd, set_code HZ.out _ (by omega) (by omega)]; unfold bareR; rw [HK.out]; simp [e1]
                clear hcd
                try clear e1
                try clear e2
                try clear e3
                try clear e4
                go_wp2_with (first | (go_at_call 14; (with_reducible refine (hc4 _ hX9).mono ?_); rintro e w10 ⟨rfl, hE10⟩; have hX10 := hX9.trans hE10) | (go_at_call 10; (with_reducible refine (hwo _).mono ?_); rintro e w11 ⟨rfl, hE11⟩))
                go_ret
                exact ⟨rfl, hE.trans (hX10.trans hE11)⟩
      · have hb0 : (r.code == 0) = false := by simpa using hc0
        have HC0 := Lib.hid hc0
        have HQ := Lib.hid hc0
        clear hc0
        go_upto_region 7 with fail
        refine wp_region_noPanic ?_
        refine tr_start (.y 0 (.y 1 (.y 2 (.three 3 4 5 (.two 4 5 (.e 5 (.e 6 (.e 7 (.e 8 .nil)))) (.e 4 (.e 6 (.e 7 (.e 8 .nil))))) (.two 3 5 (.e 5 (.e 6 (.e 7 (.e 8 .nil)))) (.e 3 (.e 6 (.e 7 (.e 8 .nil))))) (.two 3 4 (.e 4 (.e 6 (.e 7 (.e 8 .nil)))) (.e 3 (.e 6 (.e 7 (.e 8 .nil))))))))) (fun w' => Ext W w') (by kernel_rfl) (by kernel_rfl) (fun _ _ _ _ _ h => h) (by (repeat (first | assumption | exact Ext.refl _ | refine Ext.drew ?_ | refine Ext.alloc ?_ _ | refine Ext.drewN ?_ _ | refine Ext.trans ?_ (by assumption)))) ?_
        have hYd : Ext W w2.drew := by (repeat (first | assumption | exact Ext.refl _ | refine Ext.drew ?_ | refine Ext.alloc ?_ _ | refine Ext.drewN ?_ _ | refine Ext.trans ?_ (by assumption)))
        generalize w2.drew = wd at hYd ⊢
        iterate 3 (first | (refine tr_off (a' := ?_) rfl rfl (by rfl) ?_ ?_; rotate_left 1; (· simp only [Act.put, List.setIfInBounds_toArray, List.set_cons_zero, List.set_cons_succ]; rfl)) | (refine tr_y (v := ?_) (a' := ?_) rfl rfl (by rfl) (fun w' hw' => ?_) ?_ ?_; rotate_left 2; (· go_simp; with_reducible rfl); (· simp only [Act.put, List.setIfInBounds_toArray, List.set_cons_zero, List.set_cons_succ]; rfl)))
        apply key_intro (F := Three3 W #[.string r.ten, .int .i64 r.clock, .int .i64 r.kind, .int .i64 r.code, .int .i64 r.id, .string r.st, .string r.su, .int .i64 r.slot, .int .i64 r.uses, .int .i64 r.num, .slice A k c])
        case h =>
          intro key
          have hT := three_mk hYd #[.string r.ten, .int .i64 r.clock, .int .i64 r.kind, .int .i64 r.code, .int .i64 r.id, .string r.st, .string r.su, .int .i64 r.slot, .int .i64 r.uses, .int .i64 r.num, .slice A k c]
          refine tr_three ?_ ?_ ?_
          all_goals (refine tr_value (v := ?_) (w1 := ?_) (a' := ?_) rfl rfl (by rfl) ?_ ?_ ?_ ?_; rotate_left 3; (· go_simp; refine ⟨?_, ?_⟩ <;> with_reducible rfl); (· exact hYd.alloc _); (· simp only [Act.put, List.setIfInBounds_toArray, List.set_cons_zero, List.set_cons_succ]; rfl))
          all_goals refine tr_two ?_ ?_
          all_goals (refine tr_value (v := ?_) (w1 := ?_) (a' := ?_) rfl rfl (by rfl) ?_ ?_ ?_ ?_; rotate_left 3; (· go_simp; refine ⟨?_, ?_⟩ <;> with_reducible rfl); (· exact (hYd.alloc _).alloc _); (· simp only [Act.put, List.setIfInBounds_toArray, List.set_cons_zero, List.set_cons_succ]; rfl))
          all_goals (refine tr_value (v := ?_) (w1 := ?_) (a' := ?_) rfl rfl (by rfl) ?_ ?_ ?_ ?_; rotate_left 3; (· go_simp; refine ⟨?_, ?_⟩ <;> with_reducible rfl); (· exact ((hYd.alloc _).alloc _).alloc _); (· simp only [Act.put, List.setIfInBounds_toArray, List.set_cons_zero, List.set_cons_succ]; rfl))
          all_goals (refine tr_store (w1 := ?_) rfl (by rfl) rfl ?_ ?_ ?_; rotate_left 1; (· go_simp; with_reducible rfl); (· exact ((hYd.alloc _).alloc _).alloc _))
          all_goals (refine tr_store (w1 := ?_) rfl (by rfl) rfl ?_ ?_ ?_; rotate_left 1; (· go_simp; with_reducible rfl); (· exact ((hYd.alloc _).alloc _).alloc _))
          all_goals (refine tr_store (w1 := ?_) rfl (by rfl) rfl ?_ ?_ ?_; rotate_left 1; (· go_simp; with_reducible rfl); (· exact ((hYd.alloc _).alloc _).alloc _))
          all_goals refine tr_end (NoPanic.normal ?_)
          all_goals (generalize wd.heap.size + 1 + 1 = p3 at hT ⊢; generalize wd.heap.size + 1 = p2 at hT ⊢; generalize wd.heap.size = p1 at hT ⊢; generalize ((wd.alloc (.cells #[.string r.ten, .int .i64 r.clock, .int .i64 r.kind, .int .i64 r.code, .int .i64 r.id, .string r.st, .string r.su, .int .i64 r.slot, .int .i64 r.uses, .int .i64 r.num, .slice A k c] 25)).alloc (.cells #[.string r.ten, .int .i64 r.clock, .int .i64 r.kind, .int .i64 r.code, .int .i64 r.id, .string r.st, .string r.su, .int .i64 r.slot, .int .i64 r.uses, .int .i64 r.num, .slice A k c] 25)).alloc (.cells #[.string r.ten, .int .i64 r.clock, .int .i64 r.kind, .int .i64 r.code, .int .i64 r.id, .string r.st, .string r.su, .int .i64 r.slot, .int .i64 r.uses, .int .i64 r.num, .slice A k c] 25) = w3 at hT ⊢)
          all_goals first | exact key p1 p2 p3 w3 hT | exact key p2 p1 p3 w3 hT.swap | exact key p2 p3 p1 w3 hT.rot | exact key p3 p1 p2 w3 hT.rot.rot | exact key p3 p2 p1 w3 hT.rot.swap | exact key p1 p3 p2 w3 hT.rot.rot.swap
        intro p1 p2 p3 w3 hT
        have g1 := hT.ka.cell 7 (v := .int .i64 r.slot) rfl
        have g2 := hT.kb.cell 9 (v := .int .i64 r.num) rfl
        have g3 := hT.kc.cell 8 (v := .int .i64 r.uses) rfl
        have f1 := hT.ka.frozen 7
        have f2 := hT.kb.frozen 9
        have f3 := hT.kc.frozen 8
        go_upto_region 11 with fail
        have Ka := (((hT.ka.set_ 7 (.int .i64 (1 + (i : Int)))).far (p := ⟨p2, 9, none⟩) hT.ab (.int .i64 (1 + (i : Int)))).far (p := ⟨p3, 8, none⟩) hT.ac (.int .i64 (1 + (i : Int))))
        have Kb := (((hT.kb.far (p := ⟨p1, 7, none⟩) hT.ab.symm (.int .i64 (1 + (i : Int)))).set_ 9 (.int .i64 (1 + (i : Int)))).far (p := ⟨p3, 8, none⟩) hT.bc (.int .i64 (1 + (i : Int))))
        have Kc := (((hT.kc.far (p := ⟨p1, 7, none⟩) hT.ac.symm (.int .i64 (1 + (i : Int)))).far (p := ⟨p2, 9, none⟩) hT.bc.symm (.int .i64 (1 + (i : Int)))).set_ 8 (.int .i64 (1 + (i : Int))))
        simp only [List.setIfInBounds_toArray, List.set_cons_zero, List.set_cons_succ] at Ka Kb Kc
        have hX4 : Ext W _ := ((hT.ext.set (p := ⟨p1, 7, none⟩) hT.ha (.int .i64 (1 + (i : Int)))).set (p := ⟨p2, 9, none⟩) hT.hb (.int .i64 (1 + (i : Int)))).set (p := ⟨p3, 8, none⟩) hT.hc (.int .i64 (1 + (i : Int)))
        generalize ((w3.setCell ⟨p1, 7, none⟩ (.int .i64 (1 + (i : Int)))).setCell ⟨p2, 9, none⟩ (.int .i64 (1 + (i : Int)))).setCell ⟨p3, 8, none⟩ (.int .i64 (1 + (i : Int))) = w4 at Ka Kb Kc hX4 ⊢
        clear g1 g2 g3 f1 f2 f3 hT hYd
        have ac0 := Ka.cell 0 (v := .string r.ten) rfl
        have ar0 := fun (w' : World) (h : Ext w4 w') => h.cellk ac0
        have ac1 := Ka.cell 1 (v := .int .i64 r.clock) rfl
        have ar1 := fun (w' : World) (h : Ext w4 w') => h.cellk ac1
        have ac2 := Ka.cell 2 (v := .int .i64 r.kind) rfl
        have ar2 := fun (w' : World) (h : Ext w4 w') => h.cellk ac2
        have ac3 := Ka.cell 3 (v := .int .i64 r.code) rfl
        have ar3 := fun (w' : World) (h : Ext w4 w') => h.cellk ac3
        have ac4 := Ka.cell 4 (v := .int .i64 r.id) rfl
        have ar4 := fun (w' : World) (h : Ext w4 w') => h.cellk ac4
        have ac5 := Ka.cell 5 (v := .string r.st) rfl
        have ar5 := fun (w' : World) (h : Ext w4 w') => h.cellk ac5
        have ac6 := Ka.cell 6 (v := .string r.su) rfl
        have ar6 := fun (w' : World) (h : Ext w4 w') => h.cellk ac6
        have ac7 := Ka.cell 7 (v := .int .i64 (1 + (i : Int))) rfl
        have ar7 := fun (w' : World) (h : Ext w4 w') => h.cellk ac7
        have ac8 := Ka.cell 8 (v := .int .i64 r.uses) rfl
        have ar8 := fun (w' : World) (h : Ext w4 w') => h.cellk ac8
        have ac9 := Ka.cell 9 (v := .int .i64 r.num) rfl
        have ar9 := fun (w' : World) (h : Ext w4 w') => h.cellk ac9
        have ac10 := Ka.cell 10 (v := .slice A k c) rfl
        have ar10 := fun (w' : World) (h : Ext w4 w') => h.cellk ac10
        have bc0 := Kb.cell 0 (v := .string r.ten) rfl
        have br0 := fun (w' : World) (h : Ext w4 w') => h.cellk bc0
        have bc1 := Kb.cell 1 (v := .int .i64 r.clock) rfl
        have br1 := fun (w' : World) (h : Ext w4 w') => h.cellk bc1
        have bc2 := Kb.cell 2 (v := .int .i64 r.kind) rfl
        have br2 := fun (w' : World) (h : Ext w4 w') => h.cellk bc2
        have bc3 := Kb.cell 3 (v := .int .i64 r.code) rfl
        have br3 := fun (w' : World) (h : Ext w4 w') => h.cellk bc3
        have bc4 := Kb.cell 4 (v := .int .i64 r.id) rfl
        have br4 := fun (w' : World) (h : Ext w4 w') => h.cellk bc4
        have bc5 := Kb.cell 5 (v := .string r.st) rfl
        have br5 := fun (w' : World) (h : Ext w4 w') => h.cellk bc5
        have bc6 := Kb.cell 6 (v := .string r.su) rfl
        have br6 := fun (w' : World) (h : Ext w4 w') => h.cellk bc6
        have bc7 := Kb.cell 7 (v := .int .i64 r.slot) rfl
        have br7 := fun (w' : World) (h : Ext w4 w') => h.cellk bc7
        have bc8 := Kb.cell 8 (v := .int .i64 r.uses) rfl
        have br8 := fun (w' : World) (h : Ext w4 w') => h.cellk bc8
        have bc9 := Kb.cell 9 (v := .int .i64 (1 + (i : Int))) rfl
        have br9 := fun (w' : World) (h : Ext w4 w') => h.cellk bc9
        have bc10 := Kb.cell 10 (v := .slice A k c) rfl
        have br10 := fun (w' : World) (h : Ext w4 w') => h.cellk bc10
        have dc0 := Kc.cell 0 (v := .string r.ten) rfl
        have dr0 := fun (w' : World) (h : Ext w4 w') => h.cellk dc0
        have dc1 := Kc.cell 1 (v := .int .i64 r.clock) rfl
        have dr1 := fun (w' : World) (h : Ext w4 w') => h.cellk dc1
        have dc2 := Kc.cell 2 (v := .int .i64 r.kind) rfl
        have dr2 := fun (w' : World) (h : Ext w4 w') => h.cellk dc2
        have dc3 := Kc.cell 3 (v := .int .i64 r.code) rfl
        have dr3 := fun (w' : World) (h : Ext w4 w') => h.cellk dc3
        have dc4 := Kc.cell 4 (v := .int .i64 r.id) rfl
        have dr4 := fun (w' : World) (h : Ext w4 w') => h.cellk dc4
        have dc5 := Kc.cell 5 (v := .string r.st) rfl
        have dr5 := fun (w' : World) (h : Ext w4 w') => h.cellk dc5
        have dc6 := Kc.cell 6 (v := .string r.su) rfl
        have dr6 := fun (w' : World) (h : Ext w4 w') => h.cellk dc6
        have dc7 := Kc.cell 7 (v := .int .i64 r.slot) rfl
        have dr7 := fun (w' : World) (h : Ext w4 w') => h.cellk dc7
        have dc8 := Kc.cell 8 (v := .int .i64 (1 + (i : Int))) rfl
        have dr8 := fun (w' : World) (h : Ext w4 w') => h.cellk dc8
        have dc9 := Kc.cell 9 (v := .int .i64 r.num) rfl
        have dr9 := fun (w' : World) (h : Ext w4 w') => h.cellk dc9
        have dc10 := Kc.cell 10 (v := .slice A k c) rfl
        have dr10 := fun (w' : World) (h : Ext w4 w') => h.cellk dc10
        have hY4 : Ext w4 w4 := Ext.refl w4
        have hc1 := fun (w' : World) (h : Ext W w') => check_any w' { r with slot := (1 + (i : Int)) } A c (by show rdB.Sl w' A r.sealed.length r.sealed; rw [HK.out]; exact hSW.ext h) (by show r.sealed.length ≤ c; rw [HK.out]; exact hc) (by have := hok.n; exact Nat.le_trans this (by decide)) (fun x hx => by have := hok.m x hx; omega) (Nat.le_trans hok.ten (by decide)) (Nat.le_trans hok.st (by decide)) (Nat.le_trans hok.su (by decide))
        dsimp only at hc1
        rw [HK.out] at hc1
        obtain ⟨ca, hca⟩ : ∃ v, checkG { r with slot := (1 + (i : Int)) } = v := ⟨_, rfl⟩
        rw [hca] at hc1
        have hc2 := fun (w' : World) (h : Ext W w') => check_any w' { r with num := (1 + (i : Int)) } A c (by show rdB.Sl w' A r.sealed.length r.sealed; rw [HK.out]; exact hSW.ext h) (by show r.sealed.length ≤ c; rw [HK.out]; exact hc) (by have := hok.n; exact Nat.le_trans this (by decide)) (fun x hx => by have := hok.m x hx; omega) (Nat.le_trans hok.ten (by decide)) (Nat.le_trans hok.st (by decide)) (Nat.le_trans hok.su (by decide))
        dsimp only at hc2
        rw [HK.out] at hc2
        obtain ⟨cb, hcb⟩ : ∃ v, checkG { r with num := (1 + (i : Int)) } = v := ⟨_, rfl⟩
        rw [hcb] at hc2
        have hc3 := fun (w' : World) (h : Ext W w') => check_any w' { r with uses := (1 + (i : Int)) } A c (by show rdB.Sl w' A r.sealed.length r.sealed; rw [HK.out]; exact hSW.ext h) (by show r.sealed.length ≤ c; rw [HK.out]; exact hc) (by have := hok.n; exact Nat.le_trans this (by decide)) (fun x hx => by have := hok.m x hx; omega) (Nat.le_trans hok.ten (by decide)) (Nat.le_trans hok.st (by decide)) (Nat.le_trans hok.su (by decide))
        dsimp only at hc3
        rw [HK.out] at hc3
        obtain ⟨cc, hcc⟩ : ∃ v, checkG { r with uses := (1 + (i : Int)) } = v := ⟨_, rfl⟩
        rw [hcc] at hc3
        have q1 : (ca == 0) = false := by have hc0 := HC0.out; have hq := HQ.out; rw [Bool.eq_iff_iff, beq_iff_eq, ← hca, set_slot HZ.out _ (by omega) (by omega)]; simp [appR, hc0, hq]
        have q2 : (cb == 0) = false := by have hc0 := HC0.out; have hq := HQ.out; rw [Bool.eq_iff_iff, beq_iff_eq, ← hcb, set_num HZ.out _ (by omega) (by omega)]; simp [numR, hc0, hq]
        have q3 : (cc == 0) = false := by have hc0 := HC0.out; have hq := HQ.out; rw [Bool.eq_iff_iff, beq_iff_eq, ← hcc, set_uses HZ.out _ (by omega) (by omega)]; simp [appR, hc0, hq]
        have q4 : decide ((0 : Int) < (k : Int)) = false := by have hc0 := HC0.out; have hq := HQ.out; rw [Bool.eq_iff_iff, decide_eq_true_iff, ← HK.out, Int.natCast_pos, ← app_len HZ.out]; simp [appR, hc0, hq]
        have q5 : decide (0 < k) = false := by rw [← q4]; simp
        clear hca hcb hcc
        go_upto_region 13 with (first | (go_at_call 14; (with_reducible refine (hc1 _ hX4).mono ?_); rintro e w5 ⟨rfl, hE5⟩; have hX5 := hX4.trans hE5) | (go_at_call 14; (with_reducible refine (hc2 _ hX5).mono ?_); rintro e w6 ⟨rfl, hE6⟩; have hX6 := hX5.trans hE6; have hZ6 := hE5.trans hE6) | (go_at_call 14; (with_reducible refine (hc3 _ hX6).mono ?_); rintro e w7 ⟨rfl, hE7⟩; have hX7 := hX6.trans hE7))
        obtain ⟨V, hV, hEV, -⟩ := box1 w7 #[.string r.ten, .int .i64 r.clock, .int .i64 r.kind, .int .i64 r.code, .int .i64 r.id, .string r.st, .string r.su, .int .i64 r.slot, .int .i64 r.uses, .int .i64 r.num, .slice A k c] 25
        have Kd : Blk V w7.heap.size 25 #[.string r.ten, .int .i64 r.clock, .int .i64 r.kind, .int .i64 r.code, .int .i64 r.id, .string r.st, .string r.su, .int .i64 r.slot, .int .i64 r.uses, .int .i64 r.num, .slice A k c] := by rw [hV]; exact Blk.new _ _ _
        have hX7l := hX7.le
        have hXV := hX7.trans hEV
        clear Ka Kb Kc hX4 hX5 hX6 hZ6 hc1 hc2 hc3 q1 q2 q3 q4 q5 hY4 hE5 hE6 hE7
        clear ac0 ac1 ac2 ac3 ac4 ac5 ac6 ac7 ac8 ac9 ac10 ar0 ar1 ar2 ar3 ar4 ar5 ar6 ar7 ar8 ar9 ar10 bc0 bc1 bc2 bc3 bc4 bc5 bc6 bc7 bc8 bc9 bc10 br0 br1 br2 br3 br4 br5 br6 br7 br8 br9 br10 dc0 dc1 dc2 dc3 dc4 dc5 dc6 dc7 dc8 dc9 dc10 dr0 dr1 dr2 dr3 dr4 dr5 dr6 dr7 dr8 dr9 dr10
        go_upto_region 14 with fail
        rw [← hV]
        clear hV
        have g4 := Kd.cell 3 (v := .int .i64 r.code) rfl
        have f4 := Kd.frozen 3
        go_upto_region 15 with (go_at_call 24; (with_reducible refine (hpx _).mono ?_); rintro e w8 ⟨j, rfl, hj, rfl⟩; have hj1 : 1 ≤ 1 + (j : Int) := by omega)
        have Ke := Kd.set_ 3 (.int .i64 (1 + (j : Int)))
        simp only [List.setIfInBounds_toArray, List.set_cons_zero, List.set_cons_succ] at Ke
        have hX9 : Ext W _ := hXV.set (p := ⟨w7.heap.size, 3, none⟩) hX7l (.int .i64 (1 + (j : Int)))
        generalize V.setCell ⟨w7.heap.size, 3, none⟩ (.int .i64 (1 + (j : Int))) = w9 at Ke hX9 ⊢
        clear g4 f4 Kd hXV hEV
        have ac0 := Ke.cell 0 (v := .string r.ten) rfl
        have ar0 := fun (w' : World) (h : Ext w9 w') => h.cellk ac0
        have ac1 := Ke.cell 1 (v := .int .i64 r.clock) rfl
        have ar1 := fun (w' : World) (h : Ext w9 w') => h.cellk ac1
        have ac2 := Ke.cell 2 (v := .int .i64 r.kind) rfl
        have ar2 := fun (w' : World) (h : Ext w9 w') => h.cellk ac2
        have ac3 := Ke.cell 3 (v := .int .i64 (1 + (j : Int))) rfl
        have ar3 := fun (w' : World) (h : Ext w9 w') => h.cellk ac3
        have ac4 := Ke.cell 4 (v := .int .i64 r.id) rfl
        have ar4 := fun (w' : World) (h : Ext w9 w') => h.cellk ac4
        have ac5 := Ke.cell 5 (v := .string r.st) rfl
        have ar5 := fun (w' : World) (h : Ext w9 w') => h.cellk ac5
        have ac6 := Ke.cell 6 (v := .string r.su) rfl
        have ar6 := fun (w' : World) (h : Ext w9 w') => h.cellk ac6
        have ac7 := Ke.cell 7 (v := .int .i64 r.slot) rfl
        have ar7 := fun (w' : World) (h : Ext w9 w') => h.cellk ac7
        have ac8 := Ke.cell 8 (v := .int .i64 r.uses) rfl
        have ar8 := fun (w' : World) (h : Ext w9 w') => h.cellk ac8
        have ac9 := Ke.cell 9 (v := .int .i64 r.num) rfl
        have ar9 := fun (w' : World) (h : Ext w9 w') => h.cellk ac9
        have ac10 := Ke.cell 10 (v := .slice A k c) rfl
        have ar10 := fun (w' : World) (h : Ext w9 w') => h.cellk ac10
        have hY9 : Ext w9 w9 := Ext.refl w9
        have hc4 := fun (w' : World) (h : Ext W w') => check_any w' { r with code := (1 + (j : Int)) } A c (by show rdB.Sl w' A r.sealed.length r.sealed; rw [HK.out]; exact hSW.ext h) (by show r.sealed.length ≤ c; rw [HK.out]; exact hc) (by have := hok.n; exact Nat.le_trans this (by decide)) (fun x hx => by have := hok.m x hx; omega) (Nat.le_trans hok.ten (by decide)) (Nat.le_trans hok.st (by decide)) (Nat.le_trans hok.su (by decide))
        dsimp only at hc4
        rw [HK.out] at hc4
        obtain ⟨cd, hcd⟩ : ∃ v, checkG { r with code := (1 + (j : Int)) } = v := ⟨_, rfl⟩
        rw [hcd] at hc4
        have s1 := r7 w9 hX9
        have s2 := r8 w9 hX9
        have s3 := r9 w9 hX9
        have s4 := r10 w9 hX9
        by_cases e1 : r.slot = 0
        · have e1' : (r.slot == 0) = true := by simpa using e1
          by_cases e2 : r.uses = 0
          · have e2' : (r.uses == 0) = true := by simpa using e2
            by_cases e3 : r.num = 0
            · have e3' : (r.num == 0) = true := by simpa using e3
              by_cases e4 : k = 0
              · have e4' : (((k : Int)) == 0) = true := by simpa using e4
                have hcd2 : (cd == 0) = true := by rw [Bool.eq_iff_iff, beq_iff_eq, ← hcd, set_code HZ.out _ (by omega) (by omega)]; unfold bareR; rw [HK.out]; simp [e1, e2, e3, e4]
                clear hcd
                try clear e1
                try clear e2
                try clear e3
                try clear e4
                go_wp2_with (first | (go_at_call 14; (with_reducible refine (hc4 _ hX9).mono ?_); rintro e w10 ⟨rfl, hE10⟩; have hX10 := hX9.trans hE10) | (go_at_call 10; (with_reducible refine (hwo _).mono ?_); rintro e w11 ⟨rfl, hE11⟩))
                go_ret
                exact ⟨rfl, hE.trans (hX10.trans hE11)⟩
              · have e4' : (((k : Int)) == 0) = false := by simpa using e4
                have hcd2 : (cd == 0) = false := by rw [Bool.eq_iff_iff, beq_iff_eq, ← hcd, set_code HZ.out _ (by omega) (by omega)]; unfold bareR; rw [HK.out]; simp [e1, e2, e3, e4]
                clear hcd
                try clear e1
                try clear e2
                try clear e3
                try clear e4
                go_wp2_with (first | (go_at_call 14; (with_reducible refine (hc4 _ hX9).mono ?_); rintro e w10 ⟨rfl, hE10⟩; have hX10 := hX9.trans hE10) | (go_at_call 10; (with_reducible refine (hwo _).mono ?_); rintro e w11 ⟨rfl, hE11⟩))
                go_ret
                exact ⟨rfl, hE.trans (hX10.trans hE11)⟩
            · have e3' : (r.num == 0) = false := by simpa using e3
              have hcd2 : (cd == 0) = false := by rw [Bool.eq_iff_iff, beq_iff_eq, ← hcd, set_code HZ.out _ (by omega) (by omega)]; unfold bareR; rw [HK.out]; simp [e1, e2, e3]
              clear hcd
              try clear e1
              try clear e2
              try clear e3
              try clear e4
              go_wp2_with (first | (go_at_call 14; (with_reducible refine (hc4 _ hX9).mono ?_); rintro e w10 ⟨rfl, hE10⟩; have hX10 := hX9.trans hE10) | (go_at_call 10; (with_reducible refine (hwo _).mono ?_); rintro e w11 ⟨rfl, hE11⟩))
              go_ret
              exact ⟨rfl, hE.trans (hX10.trans hE11)⟩
          · have e2' : (r.uses == 0) = false := by simpa using e2
            have hcd2 : (cd == 0) = false := by rw [Bool.eq_iff_iff, beq_iff_eq, ← hcd, set_code HZ.out _ (by omega) (by omega)]; unfold bareR; rw [HK.out]; simp [e1, e2]
            clear hcd
            try clear e1
            try clear e2
            try clear e3
            try clear e4
            go_wp2_with (first | (go_at_call 14; (with_reducible refine (hc4 _ hX9).mono ?_); rintro e w10 ⟨rfl, hE10⟩; have hX10 := hX9.trans hE10) | (go_at_call 10; (with_reducible refine (hwo _).mono ?_); rintro e w11 ⟨rfl, hE11⟩))
            go_ret
            exact ⟨rfl, hE.trans (hX10.trans hE11)⟩
        · have e1' : (r.slot == 0) = false := by simpa using e1
          have hcd2 : (cd == 0) = false := by rw [Bool.eq_iff_iff, beq_iff_eq, ← hcd, set_code HZ.out _ (by omega) (by omega)]; unfold bareR; rw [HK.out]; simp [e1]
          clear hcd
          try clear e1
          try clear e2
          try clear e3
          try clear e4
          go_wp2_with (first | (go_at_call 14; (with_reducible refine (hc4 _ hX9).mono ?_); rintro e w10 ⟨rfl, hE10⟩; have hX10 := hX9.trans hE10) | (go_at_call 10; (with_reducible refine (hwo _).mono ?_); rintro e w11 ⟨rfl, hE11⟩))
          go_ret
          exact ⟨rfl, hE.trans (hX10.trans hE11)⟩
    · have hz' : (checkG r != 0) = true := by simpa using hz
      obtain ⟨cv, hcv⟩ : ∃ v, checkG r = v := ⟨_, rfl⟩
      rw [hcv] at hck hz hz'
      rw [hk] at hW x10 r10 hbg hck ⊢
      clear hS hv hk hcv hz
      go_enter Tryd.func7, Tryd.ntmps7
      go_upto_region 1 with fail
      rw [← hW]
      clear hW
      go_wp2_with (first | (go_at_call 9; (with_reducible refine hbg.mono ?_); rintro e w1 ⟨rfl, hE1⟩) | (go_at_call 14; (with_reducible refine (hck _ hE1).mono ?_); rintro e w2 ⟨rfl, hE2⟩; have hX2 := hE1.trans hE2) | (go_at_call 10; (with_reducible refine (hwo _).mono ?_); rintro e w3 ⟨rfl, hE3⟩))
      go_ret
      exact ⟨rfl, hE.trans (hX2.trans hE3)⟩
  · rw [hk] at hW x10 r10 hbg ⊢
    go_enter Tryd.func7, Tryd.ntmps7
    go_upto_region 1 with fail
    rw [← hW]
    clear hW
    go_wp2_with (first | (go_at_call 9; (with_reducible refine hbg.mono ?_); rintro e w1 ⟨rfl, hE1⟩) | (go_at_call 10; (with_reducible refine (hwo _).mono ?_); rintro e w2 ⟨rfl, hE2⟩))
    go_ret
    exact ⟨rfl, (hE.trans hE1).trans hE2⟩
end Go.Proofs.YtkmjnbfhfjafpaaDoor.Three
