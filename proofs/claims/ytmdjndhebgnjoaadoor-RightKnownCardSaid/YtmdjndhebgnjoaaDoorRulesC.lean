/- Rules: what they leave, by the document. -/
import Derived.Test.YtmdjndhebgnjoaaDoorRulesB
import Derived.Test.YtmdjndhebgnjoaaDoorRegion
namespace Go.Proofs.YtmdjndhebgnjoaaDoor
set_option linter.unusedVariables false
set_option linter.unusedSimpArgs false
open Go.RowKit Go.Shelf
theorem begins_val (s p : ByteArray) (v : Bool) (h : pre s p = v) (hp : p.size ≤ 9223372036854775807) (w : World) : Calls Tryd.prog 41 #[.string s, .string p] w fun e w' => e = .returned (.bool v) ∧ Ext w w' := by
  have := begins_any s p w hp
  rwa [h] at this
theorem refhas_val (a b : Int) (v : Bool) (h : hasR a b = v) (w : World) (ha : (Lit.int .i64 a).wf = true) (hb : (Lit.int .i64 b).wf = true) : Calls Tryd.prog 40 #[.int .i64 a, .int .i64 b] w fun e w' => e = .returned (.bool v) ∧ Ext w w' := by
  refine (refhas_any a b w ha hb).mono ?_
  rintro e w' ⟨rfl, rfl⟩
  rw [h]
  exact ⟨rfl, Ext.refl _⟩
set_option maxHeartbeats 1000000 in
set_option maxRecDepth 100000 in
theorem refallowed_any (w : World) (A : Option Addr) (c : Nat) (xs : List Rule) (hS : rdRule.Sl w A xs.length xs) (hc : xs.length ≤ c) (hn : xs.length ≤ 9223372036854775807) (hp : ∀ x ∈ xs, x.p.size ≤ 9223372036854775807) (q : Int) (s : ByteArray) (hrw : ∀ x ∈ xs, (Lit.int .i64 x.r).wf = true) (hq : (Lit.int .i64 q).wf = true) : Calls Tryd.prog 28 #[.slice A xs.length c, .int .i64 q, .string s] w fun e w' => e = .returned (.bool (allowedG xs q s)) ∧ Ext w w' := by
  unfold allowedG
  obtain ⟨v, hv⟩ : ∃ v, bestR s none xs = v := ⟨_, rfl⟩
  rw [hv]
  obtain ⟨n, hxn⟩ : ∃ n, xs.length = n := ⟨_, rfl⟩
  rw [hxn] at hS hn hc ⊢
  go_enter Tryd.func28, Tryd.ntmps28
  go_wp2_with fail
  go_loopw [7, 8] (fun s7 i wr => ∃ (k : Nat) (a : Option Rule), k ≤ n ∧ i = .int .i64 k ∧ (s7 = .int .i64 (-1) ∧ a = none ∨ ∃ j : Nat, j < n ∧ s7 = .int .i64 j ∧ ∃ y, xs[j]? = some y ∧ a = some y) ∧ bestR s a (xs.drop k) = v ∧ Ext w wr) (fun _ i _ => n - (intOf i).toNat)
  case atStart => exact ⟨0, none, by omega, rfl, .inl ⟨rfl, rfl⟩, hv, Ext.refl _⟩
  case round =>
    obtain ⟨k, a, hkn, rfl, hj, hd, hwr⟩ := hrel
    by_cases hlt : k < n
    · have hwk : wrap64 ((k : Int) + 1) = (k : Int) + 1 := IntWalk.wrap64_in _ ⟨by omega, by omega⟩
      have HX := (hS.ext hwr).get k hlt
      have hpk := hp xs[k] (List.getElem_mem _)
      have hgk : xs[k]? = some xs[k] := List.getElem?_eq_getElem (by omega)
      rw [bestR_drop (by omega)] at hd
      rcases hj with ⟨rfl, rfl⟩ | ⟨j, hjn, rfl, y, hy, rfl⟩
      · obtain ⟨b, o, cs, rfl, hk, hcell⟩ := HX
        have hcs := rdRule_cells hk
        generalize hx : xs[k]'(by omega) = x at *
        subst hcs
        have x0 : wr.cell? ⟨b, o + k * 2, none⟩ = some (.string x.p) := hcell 0 _ rfl
        have x1 : wr.cell? ⟨b, o + k * 2 + 1, none⟩ = some (.int .i64 x.r) := hcell 1 _ rfl
        have r0 := fun (w' : World) (h : Ext wr w') => h.cellk x0
        have r1 := fun (w' : World) (h : Ext wr w') => h.cellk x1
        have hX0 : Ext wr wr := Ext.refl wr
        have hl : lenO none < (x.p.size : Int) := by simp only [lenO]; omega
        cases hpf : pre s x.p
        · rw [if_neg (by rw [hpf]; simp)] at hd
          clear hcell hx hk x0 x1 hgk hl
          go_upto_region 5 with fail
          refine wp_region_noPanic ?_
          refine rg_start [(true, 0), (true, 1), (true, 2), (true, 3), (true, 4), (true, 5), (false, 6), (true, 7), (true, 8), (true, 9), (true, 10), (true, 11), (true, 12), (true, 13), (true, 14), (true, 15), (true, 16), (true, 17), (true, 18), (true, 19), (true, 20), (true, 21), (true, 22), (true, 23), (true, 24), (true, 25)] (fun w' => Ext wr w') (by kernel_rfl) (by kernel_rfl) (fun _ _ _ _ _ h => h) (by (repeat (first | assumption | exact Ext.refl _ | refine Ext.drew ?_ | refine Ext.alloc ?_ _ | refine Ext.drewN ?_ _ | refine Ext.trans ?_ (by assumption)))) ?_
          iterate 6
            first
              | (refine rg_off (a' := ?_) rfl rfl (by rfl) ?_ ?_; rotate_left 1; (· simp only [Act.put, List.setIfInBounds_toArray, List.set_cons_zero, List.set_cons_succ]; rfl))
              | (refine rg_y (v := ?_) (a' := ?_) rfl rfl (by rfl) (fun w' hw' => ?_) ?_ ?_; rotate_left 2; (· go_simp; with_reducible rfl); (· simp only [Act.put, List.setIfInBounds_toArray, List.set_cons_zero, List.set_cons_succ]; rfl))
          refine rg_call (args := ?_) rfl Tryd.func41 (by kernel_rfl) rfl (by rfl) rfl rfl ?_ ?_
          rotate_left 1
          · go_simp; rfl
          first | (with_reducible refine (begins_val _ _ _ hpf hpk _).mono ?_)
          rintro e w' ⟨rfl, hb⟩
          refine ⟨_, _, rfl, by (repeat (first | assumption | exact Ext.refl _ | refine Ext.drew ?_ | refine Ext.alloc ?_ _ | refine Ext.drewN ?_ _ | refine Ext.trans ?_ (by assumption))), (by simp only [Act.put, List.setIfInBounds_toArray, List.set_cons_zero, List.set_cons_succ]; rfl), ?_⟩
          iterate 19
            first
              | (refine rg_off (a' := ?_) rfl rfl (by rfl) ?_ ?_; rotate_left 1; (· simp only [Act.put, List.setIfInBounds_toArray, List.set_cons_zero, List.set_cons_succ]; rfl))
              | (refine rg_y (v := ?_) (a' := ?_) rfl rfl (by rfl) (fun w' hw' => ?_) ?_ ?_; rotate_left 2; (· go_simp; with_reducible rfl); (· simp only [Act.put, List.setIfInBounds_toArray, List.set_cons_zero, List.set_cons_succ]; rfl))
          refine rg_end (NoPanic.normal ?_)
          go_wp2_with fail
          go_roundw
          case rel => exact ⟨k + 1, none, by omega, by go_num, .inl ⟨rfl, rfl⟩, hd, hwr.trans (by (repeat (first | assumption | exact Ext.refl _ | refine Ext.drew ?_ | refine Ext.alloc ?_ _ | refine Ext.drewN ?_ _ | refine Ext.trans ?_ (by assumption))))⟩
          case measure => simp [intOf]; omega
        · rw [if_pos ⟨hl, hpf⟩] at hd
          clear hcell hx hk x0 x1 hl
          go_upto_region 5 with fail
          refine wp_region_noPanic ?_
          refine rg_start [(true, 0), (true, 1), (true, 2), (true, 3), (true, 4), (true, 5), (false, 6), (true, 7), (true, 8), (true, 9), (true, 10), (true, 11), (true, 12), (true, 13), (true, 14), (true, 15), (true, 16), (true, 17), (true, 18), (true, 19), (true, 20), (true, 21), (true, 22), (true, 23), (true, 24), (true, 25)] (fun w' => Ext wr w') (by kernel_rfl) (by kernel_rfl) (fun _ _ _ _ _ h => h) (by (repeat (first | assumption | exact Ext.refl _ | refine Ext.drew ?_ | refine Ext.alloc ?_ _ | refine Ext.drewN ?_ _ | refine Ext.trans ?_ (by assumption)))) ?_
          iterate 6
            first
              | (refine rg_off (a' := ?_) rfl rfl (by rfl) ?_ ?_; rotate_left 1; (· simp only [Act.put, List.setIfInBounds_toArray, List.set_cons_zero, List.set_cons_succ]; rfl))
              | (refine rg_y (v := ?_) (a' := ?_) rfl rfl (by rfl) (fun w' hw' => ?_) ?_ ?_; rotate_left 2; (· go_simp; with_reducible rfl); (· simp only [Act.put, List.setIfInBounds_toArray, List.set_cons_zero, List.set_cons_succ]; rfl))
          refine rg_call (args := ?_) rfl Tryd.func41 (by kernel_rfl) rfl (by rfl) rfl rfl ?_ ?_
          rotate_left 1
          · go_simp; rfl
          first | (with_reducible refine (begins_val _ _ _ hpf hpk _).mono ?_)
          rintro e w' ⟨rfl, hb⟩
          refine ⟨_, _, rfl, by (repeat (first | assumption | exact Ext.refl _ | refine Ext.drew ?_ | refine Ext.alloc ?_ _ | refine Ext.drewN ?_ _ | refine Ext.trans ?_ (by assumption))), (by simp only [Act.put, List.setIfInBounds_toArray, List.set_cons_zero, List.set_cons_succ]; rfl), ?_⟩
          iterate 19
            first
              | (refine rg_off (a' := ?_) rfl rfl (by rfl) ?_ ?_; rotate_left 1; (· simp only [Act.put, List.setIfInBounds_toArray, List.set_cons_zero, List.set_cons_succ]; rfl))
              | (refine rg_y (v := ?_) (a' := ?_) rfl rfl (by rfl) (fun w' hw' => ?_) ?_ ?_; rotate_left 2; (· go_simp; with_reducible rfl); (· simp only [Act.put, List.setIfInBounds_toArray, List.set_cons_zero, List.set_cons_succ]; rfl))
          refine rg_end (NoPanic.normal ?_)
          go_wp2_with fail
          go_roundw
          case rel => exact ⟨k + 1, (some x), by omega, by go_num, .inr ⟨k, hlt, by go_num, x, hgk, rfl⟩, hd, hwr.trans (by (repeat (first | assumption | exact Ext.refl _ | refine Ext.drew ?_ | refine Ext.alloc ?_ _ | refine Ext.drewN ?_ _ | refine Ext.trans ?_ (by assumption))))⟩
          case measure => simp [intOf]; omega
      · have HY := (hS.ext hwr).get j hjn
        obtain ⟨b2, o2, cs2, hA2, hk2, hcell2⟩ := HY
        have hcs2 := rdRule_cells hk2
        have hyj : xs[j]'(by omega) = y := by rw [List.getElem?_eq_getElem (by omega)] at hy; injection hy
        rw [hyj] at hcs2
        subst hcs2
        obtain ⟨b, o, cs, hA, hk, hcell⟩ := HX
        have hcs := rdRule_cells hk
        generalize hx : xs[k]'(by omega) = x at *
        subst hcs
        have x0 : wr.cell? ⟨b, o + k * 2, none⟩ = some (.string x.p) := hcell 0 _ rfl
        have x1 : wr.cell? ⟨b, o + k * 2 + 1, none⟩ = some (.int .i64 x.r) := hcell 1 _ rfl
        have r0 := fun (w' : World) (h : Ext wr w') => h.cellk x0
        have r1 := fun (w' : World) (h : Ext wr w') => h.cellk x1
        have hX0 : Ext wr wr := Ext.refl wr
        subst hA
        injection hA2 with hA2
        injection hA2 with e1 e2 e3
        subst e1 e2
        have y0 : wr.cell? ⟨b, o + j * 2, none⟩ = some (.string y.p) := hcell2 0 _ rfl
        have r2 := fun (w' : World) (h : Ext wr w') => h.cellk y0
        obtain ⟨d, hdl⟩ : ∃ d, decide ((y.p.size : Int) < x.p.size) = d := ⟨_, rfl⟩
        cases hpf : pre s x.p
        · rw [if_neg (by rw [hpf]; simp)] at hd
          clear hcell hx hk x0 x1 hgk hcell2 hk2 y0 hyj
          go_upto_region 5 with fail
          refine wp_region_noPanic ?_
          refine rg_start [(true, 0), (true, 1), (true, 2), (true, 3), (true, 4), (true, 5), (false, 6), (true, 7), (true, 8), (true, 9), (true, 10), (true, 11), (true, 12), (true, 13), (true, 14), (true, 15), (true, 16), (true, 17), (true, 18), (true, 19), (true, 20), (true, 21), (true, 22), (true, 23), (true, 24), (true, 25)] (fun w' => Ext wr w') (by kernel_rfl) (by kernel_rfl) (fun _ _ _ _ _ h => h) (by (repeat (first | assumption | exact Ext.refl _ | refine Ext.drew ?_ | refine Ext.alloc ?_ _ | refine Ext.drewN ?_ _ | refine Ext.trans ?_ (by assumption)))) ?_
          iterate 6
            first
              | (refine rg_off (a' := ?_) rfl rfl (by rfl) ?_ ?_; rotate_left 1; (· simp only [Act.put, List.setIfInBounds_toArray, List.set_cons_zero, List.set_cons_succ]; rfl))
              | (refine rg_y (v := ?_) (a' := ?_) rfl rfl (by rfl) (fun w' hw' => ?_) ?_ ?_; rotate_left 2; (· go_simp; with_reducible rfl); (· simp only [Act.put, List.setIfInBounds_toArray, List.set_cons_zero, List.set_cons_succ]; rfl))
          refine rg_call (args := ?_) rfl Tryd.func41 (by kernel_rfl) rfl (by rfl) rfl rfl ?_ ?_
          rotate_left 1
          · go_simp; rfl
          first | (with_reducible refine (begins_val _ _ _ hpf hpk _).mono ?_)
          rintro e w' ⟨rfl, hb⟩
          refine ⟨_, _, rfl, by (repeat (first | assumption | exact Ext.refl _ | refine Ext.drew ?_ | refine Ext.alloc ?_ _ | refine Ext.drewN ?_ _ | refine Ext.trans ?_ (by assumption))), (by simp only [Act.put, List.setIfInBounds_toArray, List.set_cons_zero, List.set_cons_succ]; rfl), ?_⟩
          iterate 19
            first
              | (refine rg_off (a' := ?_) rfl rfl (by rfl) ?_ ?_; rotate_left 1; (· simp only [Act.put, List.setIfInBounds_toArray, List.set_cons_zero, List.set_cons_succ]; rfl))
              | (refine rg_y (v := ?_) (a' := ?_) rfl rfl (by rfl) (fun w' hw' => ?_) ?_ ?_; rotate_left 2; (· go_simp; with_reducible rfl); (· simp only [Act.put, List.setIfInBounds_toArray, List.set_cons_zero, List.set_cons_succ]; rfl))
          refine rg_end (NoPanic.normal ?_)
          go_wp2_with fail
          go_roundw
          case rel => exact ⟨k + 1, (some y), by omega, by go_num, .inr ⟨j, hjn, rfl, y, hy, rfl⟩, hd, hwr.trans (by (repeat (first | assumption | exact Ext.refl _ | refine Ext.drew ?_ | refine Ext.alloc ?_ _ | refine Ext.drewN ?_ _ | refine Ext.trans ?_ (by assumption))))⟩
          case measure => simp [intOf]; omega
        · clear hcell hx hk x0 x1 hcell2 hk2 y0 hyj
          cases d
          · rw [if_neg (by rintro ⟨h, -⟩; exact of_decide_eq_false hdl h)] at hd
            have hdn : ¬ y.p.size < x.p.size := fun h => of_decide_eq_false hdl (by omega)
            go_upto_region 5 with fail
            refine wp_region_noPanic ?_
            refine rg_start [(true, 0), (true, 1), (true, 2), (true, 3), (true, 4), (true, 5), (false, 6), (true, 7), (true, 8), (true, 9), (true, 10), (true, 11), (true, 12), (true, 13), (true, 14), (true, 15), (true, 16), (true, 17), (true, 18), (true, 19), (true, 20), (true, 21), (true, 22), (true, 23), (true, 24), (true, 25)] (fun w' => Ext wr w') (by kernel_rfl) (by kernel_rfl) (fun _ _ _ _ _ h => h) (by (repeat (first | assumption | exact Ext.refl _ | refine Ext.drew ?_ | refine Ext.alloc ?_ _ | refine Ext.drewN ?_ _ | refine Ext.trans ?_ (by assumption)))) ?_
            iterate 6
              first
                | (refine rg_off (a' := ?_) rfl rfl (by rfl) ?_ ?_; rotate_left 1; (· simp only [Act.put, List.setIfInBounds_toArray, List.set_cons_zero, List.set_cons_succ]; rfl))
                | (refine rg_y (v := ?_) (a' := ?_) rfl rfl (by rfl) (fun w' hw' => ?_) ?_ ?_; rotate_left 2; (· go_simp; with_reducible rfl); (· simp only [Act.put, List.setIfInBounds_toArray, List.set_cons_zero, List.set_cons_succ]; rfl))
            refine rg_call (args := ?_) rfl Tryd.func41 (by kernel_rfl) rfl (by rfl) rfl rfl ?_ ?_
            rotate_left 1
            · go_simp; rfl
            first | (with_reducible refine (begins_val _ _ _ hpf hpk _).mono ?_)
            rintro e w' ⟨rfl, hb⟩
            refine ⟨_, _, rfl, by (repeat (first | assumption | exact Ext.refl _ | refine Ext.drew ?_ | refine Ext.alloc ?_ _ | refine Ext.drewN ?_ _ | refine Ext.trans ?_ (by assumption))), (by simp only [Act.put, List.setIfInBounds_toArray, List.set_cons_zero, List.set_cons_succ]; rfl), ?_⟩
            iterate 19
              first
                | (refine rg_off (a' := ?_) rfl rfl (by rfl) ?_ ?_; rotate_left 1; (· simp only [Act.put, List.setIfInBounds_toArray, List.set_cons_zero, List.set_cons_succ]; rfl))
                | (refine rg_y (v := ?_) (a' := ?_) rfl rfl (by rfl) (fun w' hw' => ?_) ?_ ?_; rotate_left 2; (· go_simp; with_reducible rfl); (· simp only [Act.put, List.setIfInBounds_toArray, List.set_cons_zero, List.set_cons_succ]; rfl))
            refine rg_end (NoPanic.normal ?_)
            go_wp2_with fail
            go_roundw
            case rel => exact ⟨k + 1, (some y), by omega, by go_num, .inr ⟨j, hjn, rfl, y, hy, rfl⟩, hd, hwr.trans (by (repeat (first | assumption | exact Ext.refl _ | refine Ext.drew ?_ | refine Ext.alloc ?_ _ | refine Ext.drewN ?_ _ | refine Ext.trans ?_ (by assumption))))⟩
            case measure => simp [intOf]; omega
          · rw [if_pos (by exact ⟨of_decide_eq_true hdl, hpf⟩)] at hd
            have hdn : y.p.size < x.p.size := by have := of_decide_eq_true hdl; omega
            go_upto_region 5 with fail
            refine wp_region_noPanic ?_
            refine rg_start [(true, 0), (true, 1), (true, 2), (true, 3), (true, 4), (true, 5), (false, 6), (true, 7), (true, 8), (true, 9), (true, 10), (true, 11), (true, 12), (true, 13), (true, 14), (true, 15), (true, 16), (true, 17), (true, 18), (true, 19), (true, 20), (true, 21), (true, 22), (true, 23), (true, 24), (true, 25)] (fun w' => Ext wr w') (by kernel_rfl) (by kernel_rfl) (fun _ _ _ _ _ h => h) (by (repeat (first | assumption | exact Ext.refl _ | refine Ext.drew ?_ | refine Ext.alloc ?_ _ | refine Ext.drewN ?_ _ | refine Ext.trans ?_ (by assumption)))) ?_
            iterate 6
              first
                | (refine rg_off (a' := ?_) rfl rfl (by rfl) ?_ ?_; rotate_left 1; (· simp only [Act.put, List.setIfInBounds_toArray, List.set_cons_zero, List.set_cons_succ]; rfl))
                | (refine rg_y (v := ?_) (a' := ?_) rfl rfl (by rfl) (fun w' hw' => ?_) ?_ ?_; rotate_left 2; (· go_simp; with_reducible rfl); (· simp only [Act.put, List.setIfInBounds_toArray, List.set_cons_zero, List.set_cons_succ]; rfl))
            refine rg_call (args := ?_) rfl Tryd.func41 (by kernel_rfl) rfl (by rfl) rfl rfl ?_ ?_
            rotate_left 1
            · go_simp; rfl
            first | (with_reducible refine (begins_val _ _ _ hpf hpk _).mono ?_)
            rintro e w' ⟨rfl, hb⟩
            refine ⟨_, _, rfl, by (repeat (first | assumption | exact Ext.refl _ | refine Ext.drew ?_ | refine Ext.alloc ?_ _ | refine Ext.drewN ?_ _ | refine Ext.trans ?_ (by assumption))), (by simp only [Act.put, List.setIfInBounds_toArray, List.set_cons_zero, List.set_cons_succ]; rfl), ?_⟩
            iterate 19
              first
                | (refine rg_off (a' := ?_) rfl rfl (by rfl) ?_ ?_; rotate_left 1; (· simp only [Act.put, List.setIfInBounds_toArray, List.set_cons_zero, List.set_cons_succ]; rfl))
                | (refine rg_y (v := ?_) (a' := ?_) rfl rfl (by rfl) (fun w' hw' => ?_) ?_ ?_; rotate_left 2; (· go_simp; with_reducible rfl); (· simp only [Act.put, List.setIfInBounds_toArray, List.set_cons_zero, List.set_cons_succ]; rfl))
            refine rg_end (NoPanic.normal ?_)
            go_wp2_with fail
            go_roundw
            case rel => exact ⟨k + 1, (some x), by omega, by go_num, .inr ⟨k, hlt, by go_num, x, hgk, rfl⟩, hd, hwr.trans (by (repeat (first | assumption | exact Ext.refl _ | refine Ext.drew ?_ | refine Ext.alloc ?_ _ | refine Ext.drewN ?_ _ | refine Ext.trans ?_ (by assumption))))⟩
            case measure => simp [intOf]; omega
    · obtain rfl : k = n := by omega
      rw [← hxn, List.drop_length] at hd
      simp only [bestR] at hd
      subst hd
      rcases hj with ⟨rfl, rfl⟩ | ⟨j, hjn, rfl, y, hy, rfl⟩
      · go_wp2_with fail
        go_ret
        exact ⟨rfl, hwr⟩
      · have HY := (hS.ext hwr).get j hjn
        obtain ⟨b2, o2, cs2, rfl, hk2, hcell2⟩ := HY
        have hcs2 := rdRule_cells hk2
        have hyj : xs[j]'(by omega) = y := by rw [List.getElem?_eq_getElem (by omega)] at hy; injection hy
        have hym : y ∈ xs := by rw [← hyj]; exact List.getElem_mem _
        have hyw := hrw y hym
        rw [hyj] at hcs2
        subst hcs2
        have y1 : wr.cell? ⟨b2, o2 + j * 2 + 1, none⟩ = some (.int .i64 y.r) := hcell2 1 _ rfl
        clear hcell2 hk2 hyj hrw hp
        go_wp2_with (go_at_call 40; (with_reducible refine (refhas_val _ _ _ rfl _ hyw hq).mono ?_); rintro e w' ⟨rfl, hb⟩; have hX : Ext wr w' := (by (repeat (first | assumption | exact Ext.refl _ | refine Ext.drew ?_ | refine Ext.alloc ?_ _ | refine Ext.drewN ?_ _ | refine Ext.trans ?_ (by assumption)))))
        go_ret
        exact ⟨rfl, hwr.trans (by (repeat (first | assumption | exact Ext.refl _ | refine Ext.drew ?_ | refine Ext.alloc ?_ _ | refine Ext.drewN ?_ _ | refine Ext.trans ?_ (by assumption))))⟩
end Go.Proofs.YtmdjndhebgnjoaaDoor
