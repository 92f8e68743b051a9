/- Rules: what may be, and what they leave. -/
import Derived.Test.YtmdjndhebgnjoaaDoorRightC
import Derived.Test.YtmdjndhebgnjoaaDoorGrantTypes
namespace Go.Proofs.YtmdjndhebgnjoaaDoor
set_option linter.unusedVariables false
set_option linter.unusedSimpArgs false
open Go.RowKit Go.Shelf
/-- May these rules be? -/
def rulesOk : List Rule → Int
  | [] => 0
  | x :: l => if prefd x.p = false then 10 else if x.r < 0 ∨ 127 < x.r then 1 else rulesOk l
def checkRulesG (l : List Rule) : Int := if 8 < l.length then 3 else rulesOk l
theorem rulesOk_drop {l : List Rule} {k : Nat} (h : k < l.length) : rulesOk (l.drop k) = if prefd l[k].p = false then 10 else if l[k].r < 0 ∨ 127 < l[k].r then 1 else rulesOk (l.drop (k + 1)) := by
  rw [List.drop_eq_getElem_cons h]
  rfl
theorem prefixed_val (p : ByteArray) (v : Bool) (h : prefd p = v) (hs : p.size ≤ 9223372036854775807) (w : World) : Calls Tryd.prog 31 #[.string p] w fun e w' => e = .returned (.bool v) ∧ Ext w w' := by
  have := prefixed_any p w hs
  rwa [h] at this
set_option maxHeartbeats 1000000 in
set_option maxRecDepth 100000 in
theorem checkRules_any (w : World) (A : Option Addr) (c : Nat) (xs : List Rule) (hS : rdRule.Sl w A xs.length xs) (hc : xs.length ≤ c) (hn : xs.length ≤ 9223372036854775807) (hp : ∀ x ∈ xs, x.p.size ≤ 9223372036854775807) : Calls Tryd.prog 26 #[.slice A xs.length c] w fun e w' => e = .returned (.int .i64 (checkRulesG xs)) ∧ Ext w w' := by
  unfold checkRulesG
  obtain ⟨v, hv⟩ : ∃ v, rulesOk xs = v := ⟨_, rfl⟩
  rw [hv]
  obtain ⟨n, hxn⟩ : ∃ n, xs.length = n := ⟨_, rfl⟩
  rw [hxn] at hS hn hc ⊢
  go_enter Tryd.func26, Tryd.ntmps26
  by_cases h8 : 8 < n
  · rw [if_pos h8]
    go_wp2_with fail
    go_ret
    exact ⟨rfl, by (repeat (first | assumption | exact Ext.refl _ | refine Ext.drew ?_ | refine Ext.alloc ?_ _ | refine Ext.drewN ?_ _ | refine Ext.trans ?_ (by assumption)))⟩
  rw [if_neg h8]
  go_wp2_with fail
  go_loopw [10] (fun i wr => ∃ k : Nat, k ≤ n ∧ i = .int .i64 k ∧ rulesOk (xs.drop k) = v ∧ Ext w wr) (fun i _ => n - (intOf i).toNat)
  case atStart => exact ⟨0, by omega, rfl, hv, Ext.refl _⟩
  case round =>
    obtain ⟨k, hkn, rfl, hd, hwr⟩ := hrel
    by_cases hlt : k < n
    · have HX := (hS.ext hwr).get k hlt
      have hpk := hp xs[k] (List.getElem_mem _)
      rw [rulesOk_drop (by omega)] at hd
      obtain ⟨b, o, cs, rfl, hk, hcell⟩ := HX
      have hcs := rdRule_cells hk
      generalize hx : xs[k]'(by omega) = x at *
      subst hcs
      have x0 : wr.cell? ⟨b, o + k * 2, none⟩ = some (.string x.p) := hcell 0 _ rfl
      have x1 : wr.cell? ⟨b, o + k * 2 + 1, none⟩ = some (.int .i64 x.r) := hcell 1 _ rfl
      clear hcell hx hk
      go_upto_region 5 with fail
      go_cut [4] from 12 to 13 (fun s4 wx => ∃ g : Nat, s4 = .pointer (some ⟨g, 0, none⟩) ∧ wr.heap.size ≤ g ∧ Blk wx g 40 #[.string x.p, .int .i64 x.r] ∧ Ext wr wx)
      case first =>
        go_wp2_with fail
        go_meet
        exact ⟨_, rfl, Nat.le_refl _, Blk.new _ _ _, (Ext.refl _).alloc _⟩
      case rest =>
        obtain ⟨g, rfl, hg, hB, hE⟩ := hcut
        have d0 := hB.cell 0 rfl
        have d1 := hB.cell 1 rfl
        have r0 := fun (w' : World) (h : Ext wc w') => h.cellk d0
        have r1 := fun (w' : World) (h : Ext wc w') => h.cellk d1
        have hX0 : Ext wc wc := Ext.refl wc
        have hE2 := hwr.trans hE
        cases hpf : prefd x.p
        · rw [if_pos hpf] at hd
          subst hd
          go_wp2_with (go_at_call 31; (with_reducible refine (prefixed_val _ _ hpf hpk _).mono ?_); rintro e w' ⟨rfl, hb⟩; have hX : Ext wc w' := (by (repeat (first | assumption | exact Ext.refl _ | refine Ext.drew ?_ | refine Ext.alloc ?_ _ | refine Ext.drewN ?_ _ | refine Ext.trans ?_ (by assumption)))))
          go_ret
          exact ⟨rfl, hE2.trans (by (repeat (first | assumption | exact Ext.refl _ | refine Ext.drew ?_ | refine Ext.alloc ?_ _ | refine Ext.drewN ?_ _ | refine Ext.trans ?_ (by assumption))))⟩
        · rw [if_neg (by rw [hpf]; decide)] at hd
          by_cases hr : x.r < 0 ∨ 127 < x.r
          · rw [if_pos hr] at hd
            subst hd
            go_wp2_with (go_at_call 31; (with_reducible refine (prefixed_val _ _ hpf hpk _).mono ?_); rintro e w' ⟨rfl, hb⟩; have hX : Ext wc w' := (by (repeat (first | assumption | exact Ext.refl _ | refine Ext.drew ?_ | refine Ext.alloc ?_ _ | refine Ext.drewN ?_ _ | refine Ext.trans ?_ (by assumption)))))
            all_goals go_ret
            all_goals exact ⟨rfl, hE2.trans (by (repeat (first | assumption | exact Ext.refl _ | refine Ext.drew ?_ | refine Ext.alloc ?_ _ | refine Ext.drewN ?_ _ | refine Ext.trans ?_ (by assumption))))⟩
          · rw [if_neg hr] at hd
            go_wp2_with (go_at_call 31; (with_reducible refine (prefixed_val _ _ hpf hpk _).mono ?_); rintro e w' ⟨rfl, hb⟩; have hX : Ext wc w' := (by (repeat (first | assumption | exact Ext.refl _ | refine Ext.drew ?_ | refine Ext.alloc ?_ _ | refine Ext.drewN ?_ _ | refine Ext.trans ?_ (by assumption)))))
            go_roundw
            case rel => exact ⟨k + 1, by omega, by go_num, hd, hE2.trans (by (repeat (first | assumption | exact Ext.refl _ | refine Ext.drew ?_ | refine Ext.alloc ?_ _ | refine Ext.drewN ?_ _ | refine Ext.trans ?_ (by assumption))))⟩
            case measure => simp [intOf]; omega
    · obtain rfl : k = n := by omega
      rw [← hxn, List.drop_length] at hd
      simp only [rulesOk] at hd
      subst hd
      go_wp2_with fail
      go_ret
      exact ⟨rfl, hwr⟩
end Go.Proofs.YtmdjndhebgnjoaaDoor
