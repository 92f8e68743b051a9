/- QuotaAdds: the walk. -/
import Derived.Test.YtmdjndhebgnjoaaQuotaTypes
import Derived.Test.YtmdjndhebgnjoaaQuotaLaws
namespace Go.Proofs.Ytmdjndhebgnjoaa
set_option linter.unusedVariables false
set_option linter.unusedSimpArgs false
open Go.RowKit
theorem sum_small (a b c a' b' c' : Int) (w : World) (h : 0 ≤ a ∧ a ≤ 1099511627776 ∧ 0 ≤ b ∧ b ≤ 1099511627776 ∧ 0 ≤ c ∧ c ≤ 1099511627776) (h' : 0 ≤ a' ∧ a' ≤ 1099511627776 ∧ 0 ≤ b' ∧ b' ≤ 1099511627776 ∧ 0 ≤ c' ∧ c' ≤ 1099511627776) : Calls Try.prog 8 #[.agg #[.int .i64 a, .int .i64 b, .int .i64 c], .agg #[.int .i64 a', .int .i64 b', .int .i64 c']] w fun e w' => e = .returned (.agg #[.int .i64 (a + a'), .int .i64 (b + b'), .int .i64 (c + c')]) ∧ Ext w w' := by
  have hw := sum_any a b c a' b' c' w
  rwa [IntWalk.wrap64_in (a + a') ⟨by omega, by omega⟩, IntWalk.wrap64_in (b + b') ⟨by omega, by omega⟩, IntWalk.wrap64_in (c + c') ⟨by omega, by omega⟩] at hw
def may_is (q1 q2 q3 u1 u2 u3 m1 m2 m3 r : Int) : Prop := ∀ w : World, Calls Try.prog 10 #[.agg #[.int .i64 q1, .int .i64 q2, .int .i64 q3], .agg #[.int .i64 u1, .int .i64 u2, .int .i64 u3], .agg #[.int .i64 m1, .int .i64 m2, .int .i64 m3]] w fun e w' => e = .returned (.int .i64 r) ∧ Ext w w'
theorem may_ok (q1 q2 q3 u1 u2 u3 m1 m2 m3 : Int) (h : -4611686018427387904 ≤ u1 + m1 ∧ -4611686018427387904 ≤ u2 + m2 ∧ -4611686018427387904 ≤ u3 + m3) (h' : u1 + m1 ≤ 4611686018427387904 ∧ u2 + m2 ≤ 4611686018427387904 ∧ u3 + m3 ≤ 4611686018427387904) (hq : u1 + m1 ≤ q1 ∧ u2 + m2 ≤ q2 ∧ u3 + m3 ≤ q3) : may_is q1 q2 q3 u1 u2 u3 m1 m2 m3 0 := by
  intro w
  have e : mayf q1 q2 q3 u1 u2 u3 m1 m2 m3 = 0 := by
    unfold mayf
    rw [IntWalk.wrap64_in (u1 + m1) ⟨by omega, by omega⟩, IntWalk.wrap64_in (u2 + m2) ⟨by omega, by omega⟩, IntWalk.wrap64_in (u3 + m3) ⟨by omega, by omega⟩, if_pos (by simp [ole, hq])]
  have hw := may_any q1 q2 q3 u1 u2 u3 m1 m2 m3 w
  rwa [e] at hw
theorem may_no (q1 q2 q3 u1 u2 u3 m1 m2 m3 : Int) (h : -4611686018427387904 ≤ u1 + m1 ∧ -4611686018427387904 ≤ u2 + m2 ∧ -4611686018427387904 ≤ u3 + m3) (h' : u1 + m1 ≤ 4611686018427387904 ∧ u2 + m2 ≤ 4611686018427387904 ∧ u3 + m3 ≤ 4611686018427387904) (hq : ¬ (u1 + m1 ≤ q1 ∧ u2 + m2 ≤ q2 ∧ u3 + m3 ≤ q3)) : may_is q1 q2 q3 u1 u2 u3 m1 m2 m3 23 := by
  intro w
  have e : mayf q1 q2 q3 u1 u2 u3 m1 m2 m3 = 23 := by
    unfold mayf
    rw [IntWalk.wrap64_in (u1 + m1) ⟨by omega, by omega⟩, IntWalk.wrap64_in (u2 + m2) ⟨by omega, by omega⟩, IntWalk.wrap64_in (u3 + m3) ⟨by omega, by omega⟩, if_neg (by simpa [ole] using hq)]
  have hw := may_any q1 q2 q3 u1 u2 u3 m1 m2 m3 w
  rwa [e] at hw
set_option maxHeartbeats 1000000 in
set_option maxRecDepth 100000 in
theorem adds_walk (q1 q2 q3 : Int) (A : Option Addr) (n c : Nat) (xs : List Quota) (w : World) (hS : rdQuota.Sl w A n xs) (hn : n ≤ 9223372036854775807) (hok : okq q1 q2 q3 = true) :
    Calls Try.prog 4 #[.agg #[.int .i64 q1, .int .i64 q2, .int .i64 q3], .slice A n c] w fun e w' => e = .returned (.bool true) ∧ Ext w w' := by
  have hok' := hok
  simp only [okq, decide_eq_true_eq] at hok'
  obtain ⟨o1, o2, o3, o4, o5, o6⟩ := hok'
  have HC : chk q1 q2 q3 = 0 := by unfold chk; rw [if_pos hok]
  obtain ⟨W, hW, hE, b1⟩ := box1 w #[.int .i64 q1, .int .i64 q2, .int .i64 q3] 23
  have c0 := b1 0 _ rfl
  have c1 := b1 1 _ rfl
  have c2 := b1 2 _ rfl
  have hlt : w.heap.size < W.heap.size := by rw [hW]; simp
  have hB : Blk W w.heap.size 23 #[.int .i64 q1, .int .i64 q2, .int .i64 q3] := by rw [hW]; exact Blk.new _ _ _
  clear b1 hok
  go_enter Try.func4, Try.ntmps4
  go_wp2_with fail
  rw [← hW]
  clear hW
  refine (check_any _ _ _ _).mono ?_
  rw [HC]
  rintro e w1 ⟨rfl, hb1⟩
  have hE1 := hE.trans hb1
  have hlt1 : w.heap.size < w1.heap.size := Nat.lt_of_lt_of_le hlt hb1.le
  have hq1 : Blk w1 w.heap.size 23 #[.int .i64 q1, .int .i64 q2, .int .i64 q3] := hb1.blk hB
  clear c0 c1 c2 hE hb1 hlt HC hB
  go_wp2_with fail
  go_loopw [6] (fun i wr => ∃ (k : Nat) (u1 u2 u3 : Int), k ≤ n ∧ k ≤ 200 ∧ i = .int .i64 k ∧ 0 ≤ u1 ∧ u1 ≤ q1 ∧ 0 ≤ u2 ∧ u2 ≤ q2 ∧ 0 ≤ u3 ∧ u3 ≤ q3 ∧ Blk wr w1.heap.size 23 #[.int .i64 u1, .int .i64 u2, .int .i64 u3] ∧ Blk wr w.heap.size 23 #[.int .i64 q1, .int .i64 q2, .int .i64 q3] ∧ Ext w wr) (fun i _ => 200 - (intOf i).toNat)
  case atStart => exact ⟨0, 0, 0, 0, by omega, by omega, rfl, by omega, by omega, by omega, by omega, by omega, by omega, Blk.new _ _ _, hq1.alloc _, hE1.alloc _⟩
  case round =>
    obtain ⟨k, u1, u2, u3, hkn, hk2, rfl, a1, a2, a3, a4, a5, a6, hu, hq, hwr⟩ := hrel
    by_cases hlt : k < n ∧ k < 200
    · obtain ⟨h1, h2⟩ := hlt
      have HX := (hS.ext hwr).get k h1
      obtain ⟨b, o, cs, rfl, hk, hcell⟩ := HX
      have hcs := rdQuota_cells hk
      generalize hx : xs[k]'(by rw [hS.1]; exact h1) = x at *
      subst hcs
      have x0 : wr.cell? ⟨b, o + k * 3, none⟩ = some (.int .i64 x.s) := hcell 0 _ rfl
      have x1 : wr.cell? ⟨b, o + k * 3 + 1, none⟩ = some (.int .i64 x.e) := hcell 1 _ rfl
      have x2 : wr.cell? ⟨b, o + k * 3 + 2, none⟩ = some (.int .i64 x.b) := hcell 2 _ rfl
      clear hcell hx hk hS
      go_wp2_with fail
      refine (check_any _ _ _ _).mono ?_
      by_cases hx : okq x.s x.e x.b = true
      · have hc : chk x.s x.e x.b = 0 := by unfold chk; rw [if_pos hx]
        rw [hc]
        rintro e w2 ⟨rfl, hb2⟩
        simp only [okq, decide_eq_true_eq] at hx
        obtain ⟨y1, y2, y3, y4, y5, y6⟩ := hx
        have hu2 := hu.ext hb2
        have hq2 := hq.ext hb2
        have x0' := hb2.cellk x0
        have x1' := hb2.cellk x1
        have x2' := hb2.cellk x2
        have hE2 := hwr.trans hb2
        have c0 := hu2.cell 0 rfl
        have c1 := hu2.cell 1 rfl
        have c2 := hu2.cell 2 rfl
        have l1 := hu2.lt
        have l2 : b < w2.heap.size := World.block_lt_of_cell? w2 _ x0'
        have n1 : ¬ w1.heap.size = w2.heap.size := by omega
        have n2 : ¬ b = w2.heap.size := by omega
        have r0 := fun (w' : World) (h : Ext w2 w') => h.cellk c0
        have r1 := fun (w' : World) (h : Ext w2 w') => h.cellk c1
        have r2 := fun (w' : World) (h : Ext w2 w') => h.cellk c2
        have r3 := fun (w' : World) (h : Ext w2 w') => h.cellk x0'
        have r4 := fun (w' : World) (h : Ext w2 w') => h.cellk x1'
        have r5 := fun (w' : World) (h : Ext w2 w') => h.cellk x2'
        clear x0 x1 x2 hwr hb2 hu hq hc c0 c1 c2 x0' x1' x2'
        go_upto_region 9 with fail
        go_cut [7] (fun s7 wx => ∃ g : Nat, s7 = .pointer (some ⟨g, 0, none⟩) ∧ w2.heap.size ≤ g ∧ Blk wx g 23 #[.int .i64 (u1 + x.s), .int .i64 (u2 + x.e), .int .i64 (u3 + x.b)] ∧ Ext w2 wx)
        case first =>
          go_wp2_with fail
          go_region_held3 (fun w' => Ext w2 w') (((repeat (first | assumption | exact Ext.refl _ | refine Ext.drew ?_ | refine Ext.drewN ?_ _ | refine Ext.alloc ?_ _ | (refine Ext.set ?_ (Ext.le (by assumption)) _) | (refine Ext.set ?_ (Nat.le_refl _) _) | refine Ext.trans ?_ (by assumption))); done)) (first | (go_at_call 8; refine (sum_small _ _ _ _ _ _ _ ⟨a1, by omega, a3, by omega, a5, by omega⟩ ⟨y1, y2, y3, y4, y5, y6⟩).mono ?_; rintro e w' ⟨rfl, hb⟩; first | (have hB2 : Blk w' w2.heap.size 23 #[.int .i64 0, .int .i64 0, .int .i64 0] := Blk.ext (Blk.drew (Blk.new w2 _ _)) hb; have f0 := hB2.cell 0 rfl; have f1 := hB2.cell 1 rfl; have f2 := hB2.cell 2 rfl; have z0 := hB2.frozen 0; have z1 := hB2.frozen 1; have z2 := hB2.frozen 2) | skip))
          all_goals
            go_wp2_with fail
            go_meet
            first
              | exact ⟨w2.heap.size, rfl, Nat.le_refl _, ((hB2.set_ 0 _).set_ 1 _).set_ 2 _, ((((((Ext.refl _).alloc _).drew).trans hb).set (Nat.le_refl _) _).set (Nat.le_refl _) _).set (Nat.le_refl _) _⟩
              | exact ⟨w'.heap.size, rfl, hb.le, Blk.new _ _ _, (((Ext.refl _).drew).trans hb).alloc _⟩
        case rest =>
          obtain ⟨g, rfl, hg, hB, hE3⟩ := hcut
          have q0 := (hq2.ext hE3).cell 0 rfl
          have q1' := (hq2.ext hE3).cell 1 rfl
          have q2' := (hq2.ext hE3).cell 2 rfl
          have v0 := (hu2.ext hE3).cell 0 rfl
          have v1 := (hu2.ext hE3).cell 1 rfl
          have v2 := (hu2.ext hE3).cell 2 rfl
          have s0 := hB.cell 0 rfl
          have s1 := hB.cell 1 rfl
          have s2 := hB.cell 2 rfl
          have X0 := r3 _ hE3
          have X1 := r4 _ hE3
          have X2 := r5 _ hE3
          clear r0 r1 r2 r3 r4 r5
          have k0 := fun (w' : World) (h : Ext wc w') => h.cellk q0
          have k1 := fun (w' : World) (h : Ext wc w') => h.cellk q1'
          have k2 := fun (w' : World) (h : Ext wc w') => h.cellk q2'
          have k3 := fun (w' : World) (h : Ext wc w') => h.cellk v0
          have k4 := fun (w' : World) (h : Ext wc w') => h.cellk v1
          have k5 := fun (w' : World) (h : Ext wc w') => h.cellk v2
          have k6 := fun (w' : World) (h : Ext wc w') => h.cellk X0
          have k7 := fun (w' : World) (h : Ext wc w') => h.cellk X1
          have k8 := fun (w' : World) (h : Ext wc w') => h.cellk X2
          go_wp2_with fail
          go_quiet (fail)
          by_cases d1 : u1 + x.s ≤ q1
          · by_cases d2 : u2 + x.e ≤ q2
            · by_cases d3 : u3 + x.b ≤ q3
              · skip
                have hm : may_is q1 q2 q3 u1 u2 u3 x.s x.e x.b 0 := may_ok _ _ _ _ _ _ _ _ _ ⟨by omega, by omega, by omega⟩ ⟨by omega, by omega, by omega⟩ (by omega)
                go_wp2_with fail
                go_region_held3 (fun w' => Ext wc w') (((repeat (first | assumption | exact Ext.refl _ | refine Ext.drew ?_ | refine Ext.drewN ?_ _ | refine Ext.alloc ?_ _ | (refine Ext.set ?_ (Ext.le (by assumption)) _) | (refine Ext.set ?_ (Nat.le_refl _) _) | refine Ext.trans ?_ (by assumption))); done)) (first | (go_at_call 10; refine (hm _).mono ?_; rintro e w' ⟨rfl, hb⟩))
                have hEX : Ext wc w' := by (repeat (first | assumption | exact Ext.refl _ | refine Ext.drew ?_ | refine Ext.alloc ?_ _ | refine Ext.drewN ?_ _ | refine Ext.trans ?_ (by assumption)))
                have f0 := (hu2.ext (hE3.trans hEX)).cell 0 rfl
                have z0 := (hu2.ext (hE3.trans hEX)).frozen 0
                have t0 := (hB.ext hEX).cell 0 rfl
                have f1 := (hu2.ext (hE3.trans hEX)).cell 1 rfl
                have z1 := (hu2.ext (hE3.trans hEX)).frozen 1
                have t1 := (hB.ext hEX).cell 1 rfl
                have f2 := (hu2.ext (hE3.trans hEX)).cell 2 rfl
                have z2 := (hu2.ext (hE3.trans hEX)).frozen 2
                have t2 := (hB.ext hEX).cell 2 rfl
                clear k0 k1 k2 k3 k4 k5 k6 k7 k8
                go_wp2_with fail
                go_roundw
                case rel => exact ⟨k + 1, u1 + x.s, u2 + x.e, u3 + x.b, by omega, by omega, by go_num, by omega, by omega, by omega, by omega, by omega, by omega, (((hu2.ext (hE3.trans hEX)).set_ 0 _).set_ 1 _).set_ 2 _, (((hq2.ext (hE3.trans hEX)).far (by dsimp only; omega) _).far (by dsimp only; omega) _).far (by dsimp only; omega) _, (((hE2.trans (hE3.trans hEX)).set (by dsimp only; omega) _).set (by dsimp only; omega) _).set (by dsimp only; omega) _⟩
                case measure => simp [intOf]; omega
              · skip
                have hm : may_is q1 q2 q3 u1 u2 u3 x.s x.e x.b 23 := may_no _ _ _ _ _ _ _ _ _ ⟨by omega, by omega, by omega⟩ ⟨by omega, by omega, by omega⟩ (by omega)
                go_wp2_with fail
                go_region_held3 (fun w' => Ext wc w') (((repeat (first | assumption | exact Ext.refl _ | refine Ext.drew ?_ | refine Ext.drewN ?_ _ | refine Ext.alloc ?_ _ | (refine Ext.set ?_ (Ext.le (by assumption)) _) | (refine Ext.set ?_ (Nat.le_refl _) _) | refine Ext.trans ?_ (by assumption))); done)) (first | (go_at_call 10; refine (hm _).mono ?_; rintro e w' ⟨rfl, hb⟩))
                have hEX : Ext wc w' := by (repeat (first | assumption | exact Ext.refl _ | refine Ext.drew ?_ | refine Ext.alloc ?_ _ | refine Ext.drewN ?_ _ | refine Ext.trans ?_ (by assumption)))
                clear k0 k1 k2 k3 k4 k5 k6 k7 k8
                go_wp2_with fail
                go_roundw
                case rel => exact ⟨k + 1, u1, u2, u3, by omega, by omega, by go_num, a1, a2, a3, a4, a5, a6, hu2.ext (hE3.trans hEX), hq2.ext (hE3.trans hEX), hE2.trans (hE3.trans hEX)⟩
                case measure => simp [intOf]; omega
            · skip
              have hm : may_is q1 q2 q3 u1 u2 u3 x.s x.e x.b 23 := may_no _ _ _ _ _ _ _ _ _ ⟨by omega, by omega, by omega⟩ ⟨by omega, by omega, by omega⟩ (by omega)
              go_wp2_with fail
              go_region_held3 (fun w' => Ext wc w') (((repeat (first | assumption | exact Ext.refl _ | refine Ext.drew ?_ | refine Ext.drewN ?_ _ | refine Ext.alloc ?_ _ | (refine Ext.set ?_ (Ext.le (by assumption)) _) | (refine Ext.set ?_ (Nat.le_refl _) _) | refine Ext.trans ?_ (by assumption))); done)) (first | (go_at_call 10; refine (hm _).mono ?_; rintro e w' ⟨rfl, hb⟩))
              have hEX : Ext wc w' := by (repeat (first | assumption | exact Ext.refl _ | refine Ext.drew ?_ | refine Ext.alloc ?_ _ | refine Ext.drewN ?_ _ | refine Ext.trans ?_ (by assumption)))
              clear k0 k1 k2 k3 k4 k5 k6 k7 k8
              go_wp2_with fail
              go_roundw
              case rel => exact ⟨k + 1, u1, u2, u3, by omega, by omega, by go_num, a1, a2, a3, a4, a5, a6, hu2.ext (hE3.trans hEX), hq2.ext (hE3.trans hEX), hE2.trans (hE3.trans hEX)⟩
              case measure => simp [intOf]; omega
          · skip
            have hm : may_is q1 q2 q3 u1 u2 u3 x.s x.e x.b 23 := may_no _ _ _ _ _ _ _ _ _ ⟨by omega, by omega, by omega⟩ ⟨by omega, by omega, by omega⟩ (by omega)
            go_wp2_with fail
            go_region_held3 (fun w' => Ext wc w') (((repeat (first | assumption | exact Ext.refl _ | refine Ext.drew ?_ | refine Ext.drewN ?_ _ | refine Ext.alloc ?_ _ | (refine Ext.set ?_ (Ext.le (by assumption)) _) | (refine Ext.set ?_ (Nat.le_refl _) _) | refine Ext.trans ?_ (by assumption))); done)) (first | (go_at_call 10; refine (hm _).mono ?_; rintro e w' ⟨rfl, hb⟩))
            have hEX : Ext wc w' := by (repeat (first | assumption | exact Ext.refl _ | refine Ext.drew ?_ | refine Ext.alloc ?_ _ | refine Ext.drewN ?_ _ | refine Ext.trans ?_ (by assumption)))
            clear k0 k1 k2 k3 k4 k5 k6 k7 k8
            go_wp2_with fail
            go_roundw
            case rel => exact ⟨k + 1, u1, u2, u3, by omega, by omega, by go_num, a1, a2, a3, a4, a5, a6, hu2.ext (hE3.trans hEX), hq2.ext (hE3.trans hEX), hE2.trans (hE3.trans hEX)⟩
            case measure => simp [intOf]; omega
      · have hc : chk x.s x.e x.b = 1 := by unfold chk; rw [if_neg hx]
        rw [hc]
        rintro e w2 ⟨rfl, hb2⟩
        have hu2 := hu.ext hb2
        have hq2 := hq.ext hb2
        have hE2 := hwr.trans hb2
        clear x0 x1 x2 hwr hb2 hu hq hc hx
        go_wp2_with fail
        go_roundw
        case rel => exact ⟨k + 1, u1, u2, u3, by omega, by omega, by go_num, a1, a2, a3, a4, a5, a6, hu2, hq2, hE2⟩
        case measure => simp [intOf]; omega
    · have q0 := hq.cell 0 rfl
      have q1' := hq.cell 1 rfl
      have q2' := hq.cell 2 rfl
      have v0 := hu.cell 0 rfl
      have v1 := hu.cell 1 rfl
      have v2 := hu.cell 2 rfl
      clear hS
      by_cases hkn' : k < n
      · have hk3 : ¬ k < 200 := fun h => hlt ⟨hkn', h⟩
        clear hlt
        go_wp2_with (go_at_call 12; refine (known_any _).mono ?_; rintro e w' ⟨rfl, hb⟩)
        go_ret
        exact ⟨rfl, hwr.trans hb⟩
      · clear hlt
        go_wp2_with (go_at_call 12; refine (known_any _).mono ?_; rintro e w' ⟨rfl, hb⟩)
        go_ret
        exact ⟨rfl, hwr.trans hb⟩
end Go.Proofs.Ytmdjndhebgnjoaa
