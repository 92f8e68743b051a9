/- The closed statement on records, walked. -/
import Derived.Test.YtkmjnbfhfjafpaaDoorRecKnownA
namespace Go.Proofs.YtkmjnbfhfjafpaaDoor
set_option linter.unusedVariables false
set_option linter.unusedSimpArgs false
open Go.RowKit
def numsK : List Int := [-9223372036854775808, -1, 0, 1, 8, 9, 25, 26, 64, 65, 200, 201, 1099511627776, 1099511627777, 9223372036854775807]
theorem lset_0 (x : Int) : lset 0 x = ⟨⟨#[97, 110, 110]⟩, x, 1, 0, 1, ⟨#[108, 111, 103]⟩, ⟨#[98, 111, 98]⟩, 1, 0, 0, [[0]]⟩ := rfl
theorem lset_1 (x : Int) : lset 1 x = ⟨⟨#[97, 110, 110]⟩, 5, x, 0, 1, ⟨#[108, 111, 103]⟩, ⟨#[98, 111, 98]⟩, 1, 0, 0, [[0]]⟩ := rfl
theorem lset_2 (x : Int) : lset 2 x = ⟨⟨#[97, 110, 110]⟩, 5, 1, x, 1, ⟨#[108, 111, 103]⟩, ⟨#[98, 111, 98]⟩, 1, 0, 0, [[0]]⟩ := rfl
theorem lset_3 (x : Int) : lset 3 x = ⟨⟨#[97, 110, 110]⟩, 5, 1, 0, x, ⟨#[108, 111, 103]⟩, ⟨#[98, 111, 98]⟩, 1, 0, 0, [[0]]⟩ := rfl
theorem lset_4 (x : Int) : lset 4 x = ⟨⟨#[97, 110, 110]⟩, 5, 1, 0, 1, ⟨#[108, 111, 103]⟩, ⟨#[98, 111, 98]⟩, x, 0, 0, [[0]]⟩ := rfl
theorem lset_5 (x : Int) : lset 5 x = ⟨⟨#[97, 110, 110]⟩, 5, 1, 0, 1, ⟨#[108, 111, 103]⟩, ⟨#[98, 111, 98]⟩, 1, x, 0, [[0]]⟩ := rfl
theorem blk_grown {w w' : World} {g base : Nat} {t e : TypeId} {cs : Array Value} {size n : Nat} {v : Value} {xs : List Value} (h : Blk w g t cs) (ho : w.ownsRow base e size v n xs) (hne : e ≠ t) (hg : w.grownBy w' v.ownBlock) : Blk w' g t cs := by
  refine (hg.block g h.lt (fun e => ?_)).trans h
  obtain ⟨_, ⟨rfl, _⟩ | ⟨g', _, cur, rfl, _, hc, _⟩⟩ := ho
  · simp [Value.ownBlock] at e
  · simp only [Value.ownBlock, Option.some.injEq] at e
    subst e
    unfold Blk at h
    rw [h] at hc
    injection hc with hc
    injection hc with _ ht
    exact hne ht.symm
theorem own_far {w : World} {g base : Nat} {t e : TypeId} {cs : Array Value} {size n : Nat} {v : Value} {xs : List Value} (ho : w.ownsRow base e size v n xs) (h : Blk w g t cs) (hne : e ≠ t) (i : Nat) (u : Value) : (w.setCell ⟨g, i, none⟩ u).ownsRow base e size v n xs := by
  obtain ⟨hl, ho⟩ := ho
  refine ⟨hl, ho.imp id ?_⟩
  rintro ⟨g', cap, cur, h1, h2, h3, h4⟩
  refine ⟨g', cap, cur, h1, h2, (Below.heap_setCell w ⟨g, i, none⟩ u g' ?_).trans h3, h4⟩
  intro e'
  have e' : g' = g := e'
  subst e'
  unfold Blk at h
  rw [h] at h3
  injection h3 with h3
  injection h3 with _ ht
  exact hne ht.symm
theorem puts_lit (w : World) (t s u : ByteArray) (kd : Int) (h1 : t.size ≤ 1000) (h2 : s.size ≤ 1000) (h3 : u.size ≤ 1000) (h4 : intOk kd) : Calls Tryd.prog 3 #[.agg #[.string t, .int .i64 0, .int .i64 kd, .int .i64 0, .int .i64 0, .string s, .string u, .int .i64 0, .int .i64 0, .int .i64 0, .slice none 0 0]] w fun e w' => e = .returned (.bool true) ∧ Ext w w' :=
  puts_walk w ⟨t, 0, kd, 0, 0, s, u, 0, 0, 0, []⟩ none 0 (Rd.Sl.none _ _ none) (Nat.le_refl _) (rin_mk (Nat.zero_le _) (fun x hx => by cases hx) h1 h2 h3 ⟨laid_ints.code, h4, laid_ints.code, laid_ints.code, laid_ints.code, laid_ints.code, laid_ints.code⟩)
def GQ (g : Nat) (v : Value) (w : World) : Prop := w.cell? ⟨g, 10, none⟩ = some v
theorem numsK_at (k : Nat) (h : k < 15) : (#[.int .i64 (-9223372036854775808), .int .i64 (-1), .int .i64 0, .int .i64 1, .int .i64 8, .int .i64 9, .int .i64 25, .int .i64 26, .int .i64 64, .int .i64 65, .int .i64 200, .int .i64 201, .int .i64 1099511627776, .int .i64 1099511627777, .int .i64 9223372036854775807] : Array Value)[k]? = some (.int .i64 (numsK[k]'h)) := by
  have e : (#[.int .i64 (-9223372036854775808), .int .i64 (-1), .int .i64 0, .int .i64 1, .int .i64 8, .int .i64 9, .int .i64 25, .int .i64 26, .int .i64 64, .int .i64 65, .int .i64 200, .int .i64 201, .int .i64 1099511627776, .int .i64 1099511627777, .int .i64 9223372036854775807] : Array Value) = (numsK.map (Value.int .i64)).toArray := rfl
  rw [e, List.getElem?_toArray, List.getElem?_map, List.getElem?_eq_getElem h]
  rfl
theorem numsK_ok : ∀ x ∈ numsK, intOk x := by decide
set_option maxHeartbeats 9000000 in
set_option maxRecDepth 100000 in
theorem known_walk (w : World) : Calls Tryd.prog 8 #[] w fun e w' => e = .returned (.bool true) ∧ Ext w w' := by
  obtain ⟨W, hW, hE, bx⟩ := box1 w #[.int .i64 (-9223372036854775808), .int .i64 (-1), .int .i64 0, .int .i64 1, .int .i64 8, .int .i64 9, .int .i64 25, .int .i64 26, .int .i64 64, .int .i64 65, .int .i64 200, .int .i64 201, .int .i64 1099511627776, .int .i64 1099511627777, .int .i64 9223372036854775807] 3
  have hb := fun k (h : k < 15) => bx k _ (numsK_at k h)
  have hla := laid_any
  dsimp only [laidR] at hla
  have hwo := works_any
  clear bx
  go_enter Tryd.func8, Tryd.ntmps8
  go_wp2_with fail
  rw [← hW]
  clear hW
  go_loopw [2] (fun i wr => ∃ k : Nat, k ≤ 15 ∧ i = .int .i64 k ∧ Ext W wr) (fun i _ => 15 - (intOf i).toNat)
  case atStart => exact ⟨0, by omega, rfl, Ext.refl W⟩
  case round =>
    obtain ⟨k, hk15, rfl, hwr⟩ := hrel
    by_cases hlt : k < 15
    · have x0 := hb k hlt
      have hxb := numsK_ok _ (List.getElem_mem (l := numsK) (n := k) hlt)
      generalize numsK[k]'hlt = x at x0 hxb
      have x1 := fun (w' : World) (h : Ext W w') => h.cellk x0
      obtain ⟨wo, rfl⟩ : ∃ wo : World, wo = wr := ⟨_, rfl⟩
      clear x0
      have hkI : decide ((k : Int) < 15) = true := by simp; omega
      have hkP : (k : Int) < 15 := by omega
      go_wp2_with fail
      go_loopw [3] (fun j ws => ∃ q : Nat, q ≤ 6 ∧ j = .int .i64 q ∧ Ext W ws) (fun j _ => 6 - (intOf j).toNat)
      case atStart => exact ⟨0, by omega, rfl, hwr⟩
      case round =>
        clear hwr
        obtain ⟨q, hq6, rfl, hws⟩ := hrel
        by_cases hq : q < 6
        · obtain rfl | rfl | rfl | rfl | rfl | rfl : q = 0 ∨ q = 1 ∨ q = 2 ∨ q = 3 ∨ q = 4 ∨ q = 5 := by omega
          · rw [show ((0 : Nat) : Int) = 0 from rfl]
            go_upto_region 22 with (go_at_call 26; (with_reducible refine (hla _).mono ?_); rintro e w3 ⟨A1, rfl, hS1, hE1⟩; have y1 := x1 _ ((hws.trans hE1).trans ((Ext.refl w3).alloc (.cells #[.string ⟨#[97, 110, 110]⟩, .int .i64 5, .int .i64 1, .int .i64 0, .int .i64 1, .string ⟨#[108, 111, 103]⟩, .string ⟨#[98, 111, 98]⟩, .int .i64 1, .int .i64 0, .int .i64 0, .slice A1 1 1] 25))))
            obtain ⟨w5, hV, hEV, -⟩ := box1 w3 #[.string ⟨#[97, 110, 110]⟩, .int .i64 x, .int .i64 1, .int .i64 0, .int .i64 1, .string ⟨#[108, 111, 103]⟩, .string ⟨#[98, 111, 98]⟩, .int .i64 1, .int .i64 0, .int .i64 0, .slice A1 1 1] 25
            have Ke : Blk w5 w3.heap.size 25 #[.string ⟨#[97, 110, 110]⟩, .int .i64 x, .int .i64 1, .int .i64 0, .int .i64 1, .string ⟨#[108, 111, 103]⟩, .string ⟨#[98, 111, 98]⟩, .int .i64 1, .int .i64 0, .int .i64 0, .slice A1 1 1] := by rw [hV]; exact Blk.new _ _ _
            rw [← hV]
            have hX5 : Ext W w5 := (hws.trans hE1).trans hEV
            have hS5 : rdB.Sl w5 A1 1 [[0]] := hS1.ext hEV
            clear y1 hV hS1 hEV
            have y1 := x1 _ hX5
            go_upto_region 23 with fail
            obtain ⟨V6, hV6, hE6, -⟩ := box1 w5 #[.string ⟨#[97, 110, 110]⟩, .int .i64 5, .int .i64 1, .int .i64 0, .int .i64 1, .string ⟨#[]⟩, .string ⟨#[]⟩, .int .i64 0, .int .i64 0, .int .i64 x, .slice none 0 0] 25
            have Km : Blk V6 w5.heap.size 25 #[.string ⟨#[97, 110, 110]⟩, .int .i64 5, .int .i64 1, .int .i64 0, .int .i64 1, .string ⟨#[]⟩, .string ⟨#[]⟩, .int .i64 0, .int .i64 0, .int .i64 x, .slice none 0 0] := by rw [hV6]; exact Blk.new _ _ _
            rw [← hV6]
            have Ke := Ke.ext hE6
            have hX6 := hX5.trans hE6
            have hS6 := hS5.ext hE6
            clear hV6 hX5 hS5 hE6 y1
            have ac0 := Ke.cell 0 (v := .string ⟨#[97, 110, 110]⟩) rfl
            have ar0 := fun (w' : World) (h : Ext V6 w') => h.cellk ac0
            have ac1 := Ke.cell 1 (v := .int .i64 x) rfl
            have ar1 := fun (w' : World) (h : Ext V6 w') => h.cellk ac1
            have ac2 := Ke.cell 2 (v := .int .i64 1) rfl
            have ar2 := fun (w' : World) (h : Ext V6 w') => h.cellk ac2
            have ac3 := Ke.cell 3 (v := .int .i64 0) rfl
            have ar3 := fun (w' : World) (h : Ext V6 w') => h.cellk ac3
            have ac4 := Ke.cell 4 (v := .int .i64 1) rfl
            have ar4 := fun (w' : World) (h : Ext V6 w') => h.cellk ac4
            have ac5 := Ke.cell 5 (v := .string ⟨#[108, 111, 103]⟩) rfl
            have ar5 := fun (w' : World) (h : Ext V6 w') => h.cellk ac5
            have ac6 := Ke.cell 6 (v := .string ⟨#[98, 111, 98]⟩) rfl
            have ar6 := fun (w' : World) (h : Ext V6 w') => h.cellk ac6
            have ac7 := Ke.cell 7 (v := .int .i64 1) rfl
            have ar7 := fun (w' : World) (h : Ext V6 w') => h.cellk ac7
            have ac8 := Ke.cell 8 (v := .int .i64 0) rfl
            have ar8 := fun (w' : World) (h : Ext V6 w') => h.cellk ac8
            have ac9 := Ke.cell 9 (v := .int .i64 0) rfl
            have ar9 := fun (w' : World) (h : Ext V6 w') => h.cellk ac9
            have ac10 := Ke.cell 10 (v := .slice A1 1 1) rfl
            have ar10 := fun (w' : World) (h : Ext V6 w') => h.cellk ac10
            have bc0 := Km.cell 0 (v := .string ⟨#[97, 110, 110]⟩) rfl
            have br0 := fun (w' : World) (h : Ext V6 w') => h.cellk bc0
            have bc1 := Km.cell 1 (v := .int .i64 5) rfl
            have br1 := fun (w' : World) (h : Ext V6 w') => h.cellk bc1
            have bc2 := Km.cell 2 (v := .int .i64 1) rfl
            have br2 := fun (w' : World) (h : Ext V6 w') => h.cellk bc2
            have bc3 := Km.cell 3 (v := .int .i64 0) rfl
            have br3 := fun (w' : World) (h : Ext V6 w') => h.cellk bc3
            have bc4 := Km.cell 4 (v := .int .i64 1) rfl
            have br4 := fun (w' : World) (h : Ext V6 w') => h.cellk bc4
            have bc5 := Km.cell 5 (v := .string ⟨#[]⟩) rfl
            have br5 := fun (w' : World) (h : Ext V6 w') => h.cellk bc5
            have bc6 := Km.cell 6 (v := .string ⟨#[]⟩) rfl
            have br6 := fun (w' : World) (h : Ext V6 w') => h.cellk bc6
            have bc7 := Km.cell 7 (v := .int .i64 0) rfl
            have br7 := fun (w' : World) (h : Ext V6 w') => h.cellk bc7
            have bc8 := Km.cell 8 (v := .int .i64 0) rfl
            have br8 := fun (w' : World) (h : Ext V6 w') => h.cellk bc8
            have bc9 := Km.cell 9 (v := .int .i64 x) rfl
            have br9 := fun (w' : World) (h : Ext V6 w') => h.cellk bc9
            have bc10 := Km.cell 10 (v := .slice none 0 0) rfl
            have br10 := fun (w' : World) (h : Ext V6 w') => h.cellk bc10
            have sx := fun (w' : World) (h : Ext V6 w') => hX6.trans h
            have h1 := fun (w' : World) (h : Ext V6 w') => puts_walk w' (lset 0 x) A1 1 (by rw [lset_sealed]; exact hS6.ext h) (by rw [lset_sealed]; exact Nat.le_refl _) (lset_in 0 x hxb)
            have h2 := fun (w' : World) => puts_walk w' (mset 1 x) none 0 (Rd.Sl.none _ _ none) (Nat.le_refl _) (mset_in 1 (by decide) x hxb)
            have h3 := fun (w' : World) => back_walk w' (mset 1 x) none 0 (Rd.Sl.none _ _ none) (Nat.le_refl _) (mset_in 1 (by decide) x hxb) none 0 [] (nil_bytes _) (Nat.le_refl _) (Nat.zero_le _)
            have h4 := fun (w' : World) (h : Ext V6 w') => Three.fields_walk w' (lset 0 x) A1 1 (by rw [lset_sealed]; exact hS6.ext h) (by rw [lset_sealed]; exact Nat.le_refl _) (lset_in 0 x hxb) k x (by unfold intOk; omega) hxb
            rw [lset_0] at h1 h4
            dsimp only [mset, List.length_nil, List.length_cons] at h1 h2 h3 h4
            simp only [Nat.reduceAdd, Nat.zero_add] at h1 h2 h3 h4
            refine wp_region_noPanic ?_
            refine tr_start (.y 0 (.e 1 (.y 2 (.y 3 (.y 4 (.e 5 (.y 6 (.y 7 (.y 8 (.y 9 (.e 10 (.y 11 (.y 12 (.y 13 (.y 14 (.y 15 (.y 16 (.y 17 (.y 18 (.y 19 (.e 20 (.y 21 (.y 22 .nil))))))))))))))))))))))) (fun w' => Ext V6 w') (by kernel_rfl) (by kernel_rfl) (fun _ _ _ _ _ h => h) (by (repeat (first | assumption | exact Ext.refl _ | refine Ext.drew ?_ | refine Ext.alloc ?_ _ | refine Ext.drewN ?_ _ | refine Ext.trans ?_ (by assumption)))) ?_
            iterate 1 (first | (refine tr_off (a' := ?_) rfl rfl (by rfl) ?_ ?_; rotate_left 1; (· simp only [Act.put, List.setIfInBounds_toArray, List.set_cons_zero, List.set_cons_succ]; rfl)) | (refine tr_y (v := ?_) (a' := ?_) rfl rfl (by rfl) (fun w' hw' => ?_) ?_ ?_; rotate_left 2; (· go_simp; with_reducible rfl); (· simp only [Act.put, List.setIfInBounds_toArray, List.set_cons_zero, List.set_cons_succ]; rfl)))
            have hYd : Ext V6 V6.drew := by (repeat (first | assumption | exact Ext.refl _ | refine Ext.drew ?_ | refine Ext.alloc ?_ _ | refine Ext.drewN ?_ _ | refine Ext.trans ?_ (by assumption)))
            generalize V6.drew = wd at hYd ⊢
            refine tr_call (args := ?_) rfl Tryd.func3 (by kernel_rfl) rfl (by rfl) rfl rfl ?_ ?_
            rotate_left 1
            · go_simp; rfl
            (with_reducible refine (h1 _ hYd).mono ?_)
            rintro e w7 ⟨rfl, hE7⟩
            refine ⟨_, _, rfl, hYd.trans hE7, (by simp only [Act.put, List.setIfInBounds_toArray, List.set_cons_zero, List.set_cons_succ]; rfl), ?_⟩
            iterate 3 (first | (refine tr_off (a' := ?_) rfl rfl (by rfl) ?_ ?_; rotate_left 1; (· simp only [Act.put, List.setIfInBounds_toArray, List.set_cons_zero, List.set_cons_succ]; rfl)) | (refine tr_y (v := ?_) (a' := ?_) rfl rfl (by rfl) (fun w' hw' => ?_) ?_ ?_; rotate_left 2; (· go_simp; with_reducible rfl); (· simp only [Act.put, List.setIfInBounds_toArray, List.set_cons_zero, List.set_cons_succ]; rfl)))
            have hY7 := hYd.trans hE7
            refine tr_call (args := ?_) rfl Tryd.func3 (by kernel_rfl) rfl (by rfl) rfl rfl ?_ ?_
            rotate_left 1
            · go_simp; rfl
            (with_reducible refine (h2 _).mono ?_)
            rintro e w8 ⟨rfl, hE8⟩
            refine ⟨_, _, rfl, hY7.trans hE8, (by simp only [Act.put, List.setIfInBounds_toArray, List.set_cons_zero, List.set_cons_succ]; rfl), ?_⟩
            iterate 4 (first | (refine tr_off (a' := ?_) rfl rfl (by rfl) ?_ ?_; rotate_left 1; (· simp only [Act.put, List.setIfInBounds_toArray, List.set_cons_zero, List.set_cons_succ]; rfl)) | (refine tr_y (v := ?_) (a' := ?_) rfl rfl (by rfl) (fun w' hw' => ?_) ?_ ?_; rotate_left 2; (· go_simp; with_reducible rfl); (· simp only [Act.put, List.setIfInBounds_toArray, List.set_cons_zero, List.set_cons_succ]; rfl)))
            have hY8 := hY7.trans hE8
            refine tr_call (args := ?_) rfl Tryd.func5 (by kernel_rfl) rfl (by rfl) rfl rfl ?_ ?_
            rotate_left 1
            · go_simp; rfl
            (with_reducible refine (h3 _).mono ?_)
            rintro e w9 ⟨rfl, hE9⟩
            refine ⟨_, _, rfl, hY8.trans hE9, (by simp only [Act.put, List.setIfInBounds_toArray, List.set_cons_zero, List.set_cons_succ]; rfl), ?_⟩
            iterate 9 (first | (refine tr_off (a' := ?_) rfl rfl (by rfl) ?_ ?_; rotate_left 1; (· simp only [Act.put, List.setIfInBounds_toArray, List.set_cons_zero, List.set_cons_succ]; rfl)) | (refine tr_y (v := ?_) (a' := ?_) rfl rfl (by rfl) (fun w' hw' => ?_) ?_ ?_; rotate_left 2; (· go_simp; with_reducible rfl); (· simp only [Act.put, List.setIfInBounds_toArray, List.set_cons_zero, List.set_cons_succ]; rfl)))
            have hY9 := hY8.trans hE9
            refine tr_call (args := ?_) rfl Tryd.func7 (by kernel_rfl) rfl (by rfl) rfl rfl ?_ ?_
            rotate_left 1
            · go_simp; rfl
            (with_reducible refine (h4 _ hY9).mono ?_)
            rintro e w10 ⟨rfl, hE10⟩
            refine ⟨_, _, rfl, hY9.trans hE10, (by simp only [Act.put, List.setIfInBounds_toArray, List.set_cons_zero, List.set_cons_succ]; rfl), ?_⟩
            iterate 2 (first | (refine tr_off (a' := ?_) rfl rfl (by rfl) ?_ ?_; rotate_left 1; (· simp only [Act.put, List.setIfInBounds_toArray, List.set_cons_zero, List.set_cons_succ]; rfl)) | (refine tr_y (v := ?_) (a' := ?_) rfl rfl (by rfl) (fun w' hw' => ?_) ?_ ?_; rotate_left 2; (· go_simp; with_reducible rfl); (· simp only [Act.put, List.setIfInBounds_toArray, List.set_cons_zero, List.set_cons_succ]; rfl)))
            have hX10 := hX6.trans (hY9.trans hE10)
            refine tr_end (NoPanic.normal ?_)
            go_wp2_with fail
            go_roundw
            case rel => first | exact ⟨1, by omega, by first | rfl | go_num | simp, hX10⟩ | ((repeat apply Exists.intro); exact ⟨⟨1, by omega, by first | rfl | go_num | simp, hX10⟩, rfl⟩)
            case measure => simp [intOf]
          · rw [show ((1 : Nat) : Int) = 1 from rfl]
            go_upto_region 22 with (go_at_call 26; (with_reducible refine (hla _).mono ?_); rintro e w3 ⟨A1, rfl, hS1, hE1⟩; have y1 := x1 _ ((hws.trans hE1).trans ((Ext.refl w3).alloc (.cells #[.string ⟨#[97, 110, 110]⟩, .int .i64 5, .int .i64 1, .int .i64 0, .int .i64 1, .string ⟨#[108, 111, 103]⟩, .string ⟨#[98, 111, 98]⟩, .int .i64 1, .int .i64 0, .int .i64 0, .slice A1 1 1] 25))))
            obtain ⟨w5, hV, hEV, -⟩ := box1 w3 #[.string ⟨#[97, 110, 110]⟩, .int .i64 5, .int .i64 x, .int .i64 0, .int .i64 1, .string ⟨#[108, 111, 103]⟩, .string ⟨#[98, 111, 98]⟩, .int .i64 1, .int .i64 0, .int .i64 0, .slice A1 1 1] 25
            have Ke : Blk w5 w3.heap.size 25 #[.string ⟨#[97, 110, 110]⟩, .int .i64 5, .int .i64 x, .int .i64 0, .int .i64 1, .string ⟨#[108, 111, 103]⟩, .string ⟨#[98, 111, 98]⟩, .int .i64 1, .int .i64 0, .int .i64 0, .slice A1 1 1] := by rw [hV]; exact Blk.new _ _ _
            rw [← hV]
            have hX5 : Ext W w5 := (hws.trans hE1).trans hEV
            have hS5 : rdB.Sl w5 A1 1 [[0]] := hS1.ext hEV
            clear y1 hV hS1 hEV
            have y1 := x1 _ hX5
            go_upto_region 23 with fail
            obtain ⟨V6, hV6, hE6, -⟩ := box1 w5 #[.string ⟨#[97, 110, 110]⟩, .int .i64 5, .int .i64 2, .int .i64 0, .int .i64 1, .string ⟨#[]⟩, .string ⟨#[]⟩, .int .i64 0, .int .i64 0, .int .i64 x, .slice none 0 0] 25
            have Km : Blk V6 w5.heap.size 25 #[.string ⟨#[97, 110, 110]⟩, .int .i64 5, .int .i64 2, .int .i64 0, .int .i64 1, .string ⟨#[]⟩, .string ⟨#[]⟩, .int .i64 0, .int .i64 0, .int .i64 x, .slice none 0 0] := by rw [hV6]; exact Blk.new _ _ _
            rw [← hV6]
            have Ke := Ke.ext hE6
            have hX6 := hX5.trans hE6
            have hS6 := hS5.ext hE6
            clear hV6 hX5 hS5 hE6 y1
            have ac0 := Ke.cell 0 (v := .string ⟨#[97, 110, 110]⟩) rfl
            have ar0 := fun (w' : World) (h : Ext V6 w') => h.cellk ac0
            have ac1 := Ke.cell 1 (v := .int .i64 5) rfl
            have ar1 := fun (w' : World) (h : Ext V6 w') => h.cellk ac1
            have ac2 := Ke.cell 2 (v := .int .i64 x) rfl
            have ar2 := fun (w' : World) (h : Ext V6 w') => h.cellk ac2
            have ac3 := Ke.cell 3 (v := .int .i64 0) rfl
            have ar3 := fun (w' : World) (h : Ext V6 w') => h.cellk ac3
            have ac4 := Ke.cell 4 (v := .int .i64 1) rfl
            have ar4 := fun (w' : World) (h : Ext V6 w') => h.cellk ac4
            have ac5 := Ke.cell 5 (v := .string ⟨#[108, 111, 103]⟩) rfl
            have ar5 := fun (w' : World) (h : Ext V6 w') => h.cellk ac5
            have ac6 := Ke.cell 6 (v := .string ⟨#[98, 111, 98]⟩) rfl
            have ar6 := fun (w' : World) (h : Ext V6 w') => h.cellk ac6
            have ac7 := Ke.cell 7 (v := .int .i64 1) rfl
            have ar7 := fun (w' : World) (h : Ext V6 w') => h.cellk ac7
            have ac8 := Ke.cell 8 (v := .int .i64 0) rfl
            have ar8 := fun (w' : World) (h : Ext V6 w') => h.cellk ac8
            have ac9 := Ke.cell 9 (v := .int .i64 0) rfl
            have ar9 := fun (w' : World) (h : Ext V6 w') => h.cellk ac9
            have ac10 := Ke.cell 10 (v := .slice A1 1 1) rfl
            have ar10 := fun (w' : World) (h : Ext V6 w') => h.cellk ac10
            have bc0 := Km.cell 0 (v := .string ⟨#[97, 110, 110]⟩) rfl
            have br0 := fun (w' : World) (h : Ext V6 w') => h.cellk bc0
            have bc1 := Km.cell 1 (v := .int .i64 5) rfl
            have br1 := fun (w' : World) (h : Ext V6 w') => h.cellk bc1
            have bc2 := Km.cell 2 (v := .int .i64 2) rfl
            have br2 := fun (w' : World) (h : Ext V6 w') => h.cellk bc2
            have bc3 := Km.cell 3 (v := .int .i64 0) rfl
            have br3 := fun (w' : World) (h : Ext V6 w') => h.cellk bc3
            have bc4 := Km.cell 4 (v := .int .i64 1) rfl
            have br4 := fun (w' : World) (h : Ext V6 w') => h.cellk bc4
            have bc5 := Km.cell 5 (v := .string ⟨#[]⟩) rfl
            have br5 := fun (w' : World) (h : Ext V6 w') => h.cellk bc5
            have bc6 := Km.cell 6 (v := .string ⟨#[]⟩) rfl
            have br6 := fun (w' : World) (h : Ext V6 w') => h.cellk bc6
            have bc7 := Km.cell 7 (v := .int .i64 0) rfl
            have br7 := fun (w' : World) (h : Ext V6 w') => h.cellk bc7
            have bc8 := Km.cell 8 (v := .int .i64 0) rfl
            have br8 := fun (w' : World) (h : Ext V6 w') => h.cellk bc8
            have bc9 := Km.cell 9 (v := .int .i64 x) rfl
            have br9 := fun (w' : World) (h : Ext V6 w') => h.cellk bc9
            have bc10 := Km.cell 10 (v := .slice none 0 0) rfl
            have br10 := fun (w' : World) (h : Ext V6 w') => h.cellk bc10
            have sx := fun (w' : World) (h : Ext V6 w') => hX6.trans h
            have h1 := fun (w' : World) (h : Ext V6 w') => puts_walk w' (lset 1 x) A1 1 (by rw [lset_sealed]; exact hS6.ext h) (by rw [lset_sealed]; exact Nat.le_refl _) (lset_in 1 x hxb)
            have h2 := fun (w' : World) => puts_walk w' (mset 2 x) none 0 (Rd.Sl.none _ _ none) (Nat.le_refl _) (mset_in 2 (by decide) x hxb)
            have h3 := fun (w' : World) => back_walk w' (mset 2 x) none 0 (Rd.Sl.none _ _ none) (Nat.le_refl _) (mset_in 2 (by decide) x hxb) none 0 [] (nil_bytes _) (Nat.le_refl _) (Nat.zero_le _)
            have h4 := fun (w' : World) (h : Ext V6 w') => Three.fields_walk w' (lset 1 x) A1 1 (by rw [lset_sealed]; exact hS6.ext h) (by rw [lset_sealed]; exact Nat.le_refl _) (lset_in 1 x hxb) k x (by unfold intOk; omega) hxb
            rw [lset_1] at h1 h4
            dsimp only [mset, List.length_nil, List.length_cons] at h1 h2 h3 h4
            simp only [Nat.reduceAdd, Nat.zero_add] at h1 h2 h3 h4
            refine wp_region_noPanic ?_
            refine tr_start (.y 0 (.e 1 (.y 2 (.y 3 (.y 4 (.e 5 (.y 6 (.y 7 (.y 8 (.y 9 (.e 10 (.y 11 (.y 12 (.y 13 (.y 14 (.y 15 (.y 16 (.y 17 (.y 18 (.y 19 (.e 20 (.y 21 (.y 22 .nil))))))))))))))))))))))) (fun w' => Ext V6 w') (by kernel_rfl) (by kernel_rfl) (fun _ _ _ _ _ h => h) (by (repeat (first | assumption | exact Ext.refl _ | refine Ext.drew ?_ | refine Ext.alloc ?_ _ | refine Ext.drewN ?_ _ | refine Ext.trans ?_ (by assumption)))) ?_
            iterate 1 (first | (refine tr_off (a' := ?_) rfl rfl (by rfl) ?_ ?_; rotate_left 1; (· simp only [Act.put, List.setIfInBounds_toArray, List.set_cons_zero, List.set_cons_succ]; rfl)) | (refine tr_y (v := ?_) (a' := ?_) rfl rfl (by rfl) (fun w' hw' => ?_) ?_ ?_; rotate_left 2; (· go_simp; with_reducible rfl); (· simp only [Act.put, List.setIfInBounds_toArray, List.set_cons_zero, List.set_cons_succ]; rfl)))
            have hYd : Ext V6 V6.drew := by (repeat (first | assumption | exact Ext.refl _ | refine Ext.drew ?_ | refine Ext.alloc ?_ _ | refine Ext.drewN ?_ _ | refine Ext.trans ?_ (by assumption)))
            generalize V6.drew = wd at hYd ⊢
            refine tr_call (args := ?_) rfl Tryd.func3 (by kernel_rfl) rfl (by rfl) rfl rfl ?_ ?_
            rotate_left 1
            · go_simp; rfl
            (with_reducible refine (h1 _ hYd).mono ?_)
            rintro e w7 ⟨rfl, hE7⟩
            refine ⟨_, _, rfl, hYd.trans hE7, (by simp only [Act.put, List.setIfInBounds_toArray, List.set_cons_zero, List.set_cons_succ]; rfl), ?_⟩
            iterate 3 (first | (refine tr_off (a' := ?_) rfl rfl (by rfl) ?_ ?_; rotate_left 1; (· simp only [Act.put, List.setIfInBounds_toArray, List.set_cons_zero, List.set_cons_succ]; rfl)) | (refine tr_y (v := ?_) (a' := ?_) rfl rfl (by rfl) (fun w' hw' => ?_) ?_ ?_; rotate_left 2; (· go_simp; with_reducible rfl); (· simp only [Act.put, List.setIfInBounds_toArray, List.set_cons_zero, List.set_cons_succ]; rfl)))
            have hY7 := hYd.trans hE7
            refine tr_call (args := ?_) rfl Tryd.func3 (by kernel_rfl) rfl (by rfl) rfl rfl ?_ ?_
            rotate_left 1
            · go_simp; rfl
            (with_reducible refine (h2 _).mono ?_)
            rintro e w8 ⟨rfl, hE8⟩
            refine ⟨_, _, rfl, hY7.trans hE8, (by simp only [Act.put, List.setIfInBounds_toArray, List.set_cons_zero, List.set_cons_succ]; rfl), ?_⟩
            iterate 4 (first | (refine tr_off (a' := ?_) rfl rfl (by rfl) ?_ ?_; rotate_left 1; (· simp only [Act.put, List.setIfInBounds_toArray, List.set_cons_zero, List.set_cons_succ]; rfl)) | (refine tr_y (v := ?_) (a' := ?_) rfl rfl (by rfl) (fun w' hw' => ?_) ?_ ?_; rotate_left 2; (· go_simp; with_reducible rfl); (· simp only [Act.put, List.setIfInBounds_toArray, List.set_cons_zero, List.set_cons_succ]; rfl)))
            have hY8 := hY7.trans hE8
            refine tr_call (args := ?_) rfl Tryd.func5 (by kernel_rfl) rfl (by rfl) rfl rfl ?_ ?_
            rotate_left 1
            · go_simp; rfl
            (with_reducible refine (h3 _).mono ?_)
            rintro e w9 ⟨rfl, hE9⟩
            refine ⟨_, _, rfl, hY8.trans hE9, (by simp only [Act.put, List.setIfInBounds_toArray, List.set_cons_zero, List.set_cons_succ]; rfl), ?_⟩
            iterate 9 (first | (refine tr_off (a' := ?_) rfl rfl (by rfl) ?_ ?_; rotate_left 1; (· simp only [Act.put, List.setIfInBounds_toArray, List.set_cons_zero, List.set_cons_succ]; rfl)) | (refine tr_y (v := ?_) (a' := ?_) rfl rfl (by rfl) (fun w' hw' => ?_) ?_ ?_; rotate_left 2; (· go_simp; with_reducible rfl); (· simp only [Act.put, List.setIfInBounds_toArray, List.set_cons_zero, List.set_cons_succ]; rfl)))
            have hY9 := hY8.trans hE9
            refine tr_call (args := ?_) rfl Tryd.func7 (by kernel_rfl) rfl (by rfl) rfl rfl ?_ ?_
            rotate_left 1
            · go_simp; rfl
            (with_reducible refine (h4 _ hY9).mono ?_)
            rintro e w10 ⟨rfl, hE10⟩
            refine ⟨_, _, rfl, hY9.trans hE10, (by simp only [Act.put, List.setIfInBounds_toArray, List.set_cons_zero, List.set_cons_succ]; rfl), ?_⟩
            iterate 2 (first | (refine tr_off (a' := ?_) rfl rfl (by rfl) ?_ ?_; rotate_left 1; (· simp only [Act.put, List.setIfInBounds_toArray, List.set_cons_zero, List.set_cons_succ]; rfl)) | (refine tr_y (v := ?_) (a' := ?_) rfl rfl (by rfl) (fun w' hw' => ?_) ?_ ?_; rotate_left 2; (· go_simp; with_reducible rfl); (· simp only [Act.put, List.setIfInBounds_toArray, List.set_cons_zero, List.set_cons_succ]; rfl)))
            have hX10 := hX6.trans (hY9.trans hE10)
            refine tr_end (NoPanic.normal ?_)
            go_wp2_with fail
            go_roundw
            case rel => first | exact ⟨2, by omega, by first | rfl | go_num | simp, hX10⟩ | ((repeat apply Exists.intro); exact ⟨⟨2, by omega, by first | rfl | go_num | simp, hX10⟩, rfl⟩)
            case measure => simp [intOf]
          · rw [show ((2 : Nat) : Int) = 2 from rfl]
            go_upto_region 22 with (go_at_call 26; (with_reducible refine (hla _).mono ?_); rintro e w3 ⟨A1, rfl, hS1, hE1⟩; have y1 := x1 _ ((hws.trans hE1).trans ((Ext.refl w3).alloc (.cells #[.string ⟨#[97, 110, 110]⟩, .int .i64 5, .int .i64 1, .int .i64 0, .int .i64 1, .string ⟨#[108, 111, 103]⟩, .string ⟨#[98, 111, 98]⟩, .int .i64 1, .int .i64 0, .int .i64 0, .slice A1 1 1] 25))))
            obtain ⟨w5, hV, hEV, -⟩ := box1 w3 #[.string ⟨#[97, 110, 110]⟩, .int .i64 5, .int .i64 1, .int .i64 x, .int .i64 1, .string ⟨#[108, 111, 103]⟩, .string ⟨#[98, 111, 98]⟩, .int .i64 1, .int .i64 0, .int .i64 0, .slice A1 1 1] 25
            have Ke : Blk w5 w3.heap.size 25 #[.string ⟨#[97, 110, 110]⟩, .int .i64 5, .int .i64 1, .int .i64 x, .int .i64 1, .string ⟨#[108, 111, 103]⟩, .string ⟨#[98, 111, 98]⟩, .int .i64 1, .int .i64 0, .int .i64 0, .slice A1 1 1] := by rw [hV]; exact Blk.new _ _ _
            rw [← hV]
            have hX5 : Ext W w5 := (hws.trans hE1).trans hEV
            have hS5 : rdB.Sl w5 A1 1 [[0]] := hS1.ext hEV
            clear y1 hV hS1 hEV
            have y1 := x1 _ hX5
            go_upto_region 23 with fail
            obtain ⟨V6, hV6, hE6, -⟩ := box1 w5 #[.string ⟨#[97, 110, 110]⟩, .int .i64 5, .int .i64 3, .int .i64 0, .int .i64 1, .string ⟨#[]⟩, .string ⟨#[]⟩, .int .i64 0, .int .i64 0, .int .i64 x, .slice none 0 0] 25
            have Km : Blk V6 w5.heap.size 25 #[.string ⟨#[97, 110, 110]⟩, .int .i64 5, .int .i64 3, .int .i64 0, .int .i64 1, .string ⟨#[]⟩, .string ⟨#[]⟩, .int .i64 0, .int .i64 0, .int .i64 x, .slice none 0 0] := by rw [hV6]; exact Blk.new _ _ _
            rw [← hV6]
            have Ke := Ke.ext hE6
            have hX6 := hX5.trans hE6
            have hS6 := hS5.ext hE6
            clear hV6 hX5 hS5 hE6 y1
            have ac0 := Ke.cell 0 (v := .string ⟨#[97, 110, 110]⟩) rfl
            have ar0 := fun (w' : World) (h : Ext V6 w') => h.cellk ac0
            have ac1 := Ke.cell 1 (v := .int .i64 5) rfl
            have ar1 := fun (w' : World) (h : Ext V6 w') => h.cellk ac1
            have ac2 := Ke.cell 2 (v := .int .i64 1) rfl
            have ar2 := fun (w' : World) (h : Ext V6 w') => h.cellk ac2
            have ac3 := Ke.cell 3 (v := .int .i64 x) rfl
            have ar3 := fun (w' : World) (h : Ext V6 w') => h.cellk ac3
            have ac4 := Ke.cell 4 (v := .int .i64 1) rfl
            have ar4 := fun (w' : World) (h : Ext V6 w') => h.cellk ac4
            have ac5 := Ke.cell 5 (v := .string ⟨#[108, 111, 103]⟩) rfl
            have ar5 := fun (w' : World) (h : Ext V6 w') => h.cellk ac5
            have ac6 := Ke.cell 6 (v := .string ⟨#[98, 111, 98]⟩) rfl
            have ar6 := fun (w' : World) (h : Ext V6 w') => h.cellk ac6
            have ac7 := Ke.cell 7 (v := .int .i64 1) rfl
            have ar7 := fun (w' : World) (h : Ext V6 w') => h.cellk ac7
            have ac8 := Ke.cell 8 (v := .int .i64 0) rfl
            have ar8 := fun (w' : World) (h : Ext V6 w') => h.cellk ac8
            have ac9 := Ke.cell 9 (v := .int .i64 0) rfl
            have ar9 := fun (w' : World) (h : Ext V6 w') => h.cellk ac9
            have ac10 := Ke.cell 10 (v := .slice A1 1 1) rfl
            have ar10 := fun (w' : World) (h : Ext V6 w') => h.cellk ac10
            have bc0 := Km.cell 0 (v := .string ⟨#[97, 110, 110]⟩) rfl
            have br0 := fun (w' : World) (h : Ext V6 w') => h.cellk bc0
            have bc1 := Km.cell 1 (v := .int .i64 5) rfl
            have br1 := fun (w' : World) (h : Ext V6 w') => h.cellk bc1
            have bc2 := Km.cell 2 (v := .int .i64 3) rfl
            have br2 := fun (w' : World) (h : Ext V6 w') => h.cellk bc2
            have bc3 := Km.cell 3 (v := .int .i64 0) rfl
            have br3 := fun (w' : World) (h : Ext V6 w') => h.cellk bc3
            have bc4 := Km.cell 4 (v := .int .i64 1) rfl
            have br4 := fun (w' : World) (h : Ext V6 w') => h.cellk bc4
            have bc5 := Km.cell 5 (v := .string ⟨#[]⟩) rfl
            have br5 := fun (w' : World) (h : Ext V6 w') => h.cellk bc5
            have bc6 := Km.cell 6 (v := .string ⟨#[]⟩) rfl
            have br6 := fun (w' : World) (h : Ext V6 w') => h.cellk bc6
            have bc7 := Km.cell 7 (v := .int .i64 0) rfl
            have br7 := fun (w' : World) (h : Ext V6 w') => h.cellk bc7
            have bc8 := Km.cell 8 (v := .int .i64 0) rfl
            have br8 := fun (w' : World) (h : Ext V6 w') => h.cellk bc8
            have bc9 := Km.cell 9 (v := .int .i64 x) rfl
            have br9 := fun (w' : World) (h : Ext V6 w') => h.cellk bc9
            have bc10 := Km.cell 10 (v := .slice none 0 0) rfl
            have br10 := fun (w' : World) (h : Ext V6 w') => h.cellk bc10
            have sx := fun (w' : World) (h : Ext V6 w') => hX6.trans h
            have h1 := fun (w' : World) (h : Ext V6 w') => puts_walk w' (lset 2 x) A1 1 (by rw [lset_sealed]; exact hS6.ext h) (by rw [lset_sealed]; exact Nat.le_refl _) (lset_in 2 x hxb)
            have h2 := fun (w' : World) => puts_walk w' (mset 3 x) none 0 (Rd.Sl.none _ _ none) (Nat.le_refl _) (mset_in 3 (by decide) x hxb)
            have h3 := fun (w' : World) => back_walk w' (mset 3 x) none 0 (Rd.Sl.none _ _ none) (Nat.le_refl _) (mset_in 3 (by decide) x hxb) none 0 [] (nil_bytes _) (Nat.le_refl _) (Nat.zero_le _)
            have h4 := fun (w' : World) (h : Ext V6 w') => Three.fields_walk w' (lset 2 x) A1 1 (by rw [lset_sealed]; exact hS6.ext h) (by rw [lset_sealed]; exact Nat.le_refl _) (lset_in 2 x hxb) k x (by unfold intOk; omega) hxb
            rw [lset_2] at h1 h4
            dsimp only [mset, List.length_nil, List.length_cons] at h1 h2 h3 h4
            simp only [Nat.reduceAdd, Nat.zero_add] at h1 h2 h3 h4
            refine wp_region_noPanic ?_
            refine tr_start (.y 0 (.e 1 (.y 2 (.y 3 (.y 4 (.e 5 (.y 6 (.y 7 (.y 8 (.y 9 (.e 10 (.y 11 (.y 12 (.y 13 (.y 14 (.y 15 (.y 16 (.y 17 (.y 18 (.y 19 (.e 20 (.y 21 (.y 22 .nil))))))))))))))))))))))) (fun w' => Ext V6 w') (by kernel_rfl) (by kernel_rfl) (fun _ _ _ _ _ h => h) (by (repeat (first | assumption | exact Ext.refl _ | refine Ext.drew ?_ | refine Ext.alloc ?_ _ | refine Ext.drewN ?_ _ | refine Ext.trans ?_ (by assumption)))) ?_
            iterate 1 (first | (refine tr_off (a' := ?_) rfl rfl (by rfl) ?_ ?_; rotate_left 1; (· simp only [Act.put, List.setIfInBounds_toArray, List.set_cons_zero, List.set_cons_succ]; rfl)) | (refine tr_y (v := ?_) (a' := ?_) rfl rfl (by rfl) (fun w' hw' => ?_) ?_ ?_; rotate_left 2; (· go_simp; with_reducible rfl); (· simp only [Act.put, List.setIfInBounds_toArray, List.set_cons_zero, List.set_cons_succ]; rfl)))
            have hYd : Ext V6 V6.drew := by (repeat (first | assumption | exact Ext.refl _ | refine Ext.drew ?_ | refine Ext.alloc ?_ _ | refine Ext.drewN ?_ _ | refine Ext.trans ?_ (by assumption)))
            generalize V6.drew = wd at hYd ⊢
            refine tr_call (args := ?_) rfl Tryd.func3 (by kernel_rfl) rfl (by rfl) rfl rfl ?_ ?_
            rotate_left 1
            · go_simp; rfl
            (with_reducible refine (h1 _ hYd).mono ?_)
            rintro e w7 ⟨rfl, hE7⟩
            refine ⟨_, _, rfl, hYd.trans hE7, (by simp only [Act.put, List.setIfInBounds_toArray, List.set_cons_zero, List.set_cons_succ]; rfl), ?_⟩
            iterate 3 (first | (refine tr_off (a' := ?_) rfl rfl (by rfl) ?_ ?_; rotate_left 1; (· simp only [Act.put, List.setIfInBounds_toArray, List.set_cons_zero, List.set_cons_succ]; rfl)) | (refine tr_y (v := ?_) (a' := ?_) rfl rfl (by rfl) (fun w' hw' => ?_) ?_ ?_; rotate_left 2; (· go_simp; with_reducible rfl); (· simp only [Act.put, List.setIfInBounds_toArray, List.set_cons_zero, List.set_cons_succ]; rfl)))
            have hY7 := hYd.trans hE7
            refine tr_call (args := ?_) rfl Tryd.func3 (by kernel_rfl) rfl (by rfl) rfl rfl ?_ ?_
            rotate_left 1
            · go_simp; rfl
            (with_reducible refine (h2 _).mono ?_)
            rintro e w8 ⟨rfl, hE8⟩
            refine ⟨_, _, rfl, hY7.trans hE8, (by simp only [Act.put, List.setIfInBounds_toArray, List.set_cons_zero, List.set_cons_succ]; rfl), ?_⟩
            iterate 4 (first | (refine tr_off (a' := ?_) rfl rfl (by rfl) ?_ ?_; rotate_left 1; (· simp only [Act.put, List.setIfInBounds_toArray, List.set_cons_zero, List.set_cons_succ]; rfl)) | (refine tr_y (v := ?_) (a' := ?_) rfl rfl (by rfl) (fun w' hw' => ?_) ?_ ?_; rotate_left 2; (· go_simp; with_reducible rfl); (· simp only [Act.put, List.setIfInBounds_toArray, List.set_cons_zero, List.set_cons_succ]; rfl)))
            have hY8 := hY7.trans hE8
            refine tr_call (args := ?_) rfl Tryd.func5 (by kernel_rfl) rfl (by rfl) rfl rfl ?_ ?_
            rotate_left 1
            · go_simp; rfl
            (with_reducible refine (h3 _).mono ?_)
            rintro e w9 ⟨rfl, hE9⟩
            refine ⟨_, _, rfl, hY8.trans hE9, (by simp only [Act.put, List.setIfInBounds_toArray, List.set_cons_zero, List.set_cons_succ]; rfl), ?_⟩
            iterate 9 (first | (refine tr_off (a' := ?_) rfl rfl (by rfl) ?_ ?_; rotate_left 1; (· simp only [Act.put, List.setIfInBounds_toArray, List.set_cons_zero, List.set_cons_succ]; rfl)) | (refine tr_y (v := ?_) (a' := ?_) rfl rfl (by rfl) (fun w' hw' => ?_) ?_ ?_; rotate_left 2; (· go_simp; with_reducible rfl); (· simp only [Act.put, List.setIfInBounds_toArray, List.set_cons_zero, List.set_cons_succ]; rfl)))
            have hY9 := hY8.trans hE9
            refine tr_call (args := ?_) rfl Tryd.func7 (by kernel_rfl) rfl (by rfl) rfl rfl ?_ ?_
            rotate_left 1
            · go_simp; rfl
            (with_reducible refine (h4 _ hY9).mono ?_)
            rintro e w10 ⟨rfl, hE10⟩
            refine ⟨_, _, rfl, hY9.trans hE10, (by simp only [Act.put, List.setIfInBounds_toArray, List.set_cons_zero, List.set_cons_succ]; rfl), ?_⟩
            iterate 2 (first | (refine tr_off (a' := ?_) rfl rfl (by rfl) ?_ ?_; rotate_left 1; (· simp only [Act.put, List.setIfInBounds_toArray, List.set_cons_zero, List.set_cons_succ]; rfl)) | (refine tr_y (v := ?_) (a' := ?_) rfl rfl (by rfl) (fun w' hw' => ?_) ?_ ?_; rotate_left 2; (· go_simp; with_reducible rfl); (· simp only [Act.put, List.setIfInBounds_toArray, List.set_cons_zero, List.set_cons_succ]; rfl)))
            have hX10 := hX6.trans (hY9.trans hE10)
            refine tr_end (NoPanic.normal ?_)
            go_wp2_with fail
            go_roundw
            case rel => first | exact ⟨3, by omega, by first | rfl | go_num | simp, hX10⟩ | ((repeat apply Exists.intro); exact ⟨⟨3, by omega, by first | rfl | go_num | simp, hX10⟩, rfl⟩)
            case measure => simp [intOf]
          · rw [show ((3 : Nat) : Int) = 3 from rfl]
            go_upto_region 22 with (go_at_call 26; (with_reducible refine (hla _).mono ?_); rintro e w3 ⟨A1, rfl, hS1, hE1⟩; have y1 := x1 _ ((hws.trans hE1).trans ((Ext.refl w3).alloc (.cells #[.string ⟨#[97, 110, 110]⟩, .int .i64 5, .int .i64 1, .int .i64 0, .int .i64 1, .string ⟨#[108, 111, 103]⟩, .string ⟨#[98, 111, 98]⟩, .int .i64 1, .int .i64 0, .int .i64 0, .slice A1 1 1] 25))))
            obtain ⟨w5, hV, hEV, -⟩ := box1 w3 #[.string ⟨#[97, 110, 110]⟩, .int .i64 5, .int .i64 1, .int .i64 0, .int .i64 x, .string ⟨#[108, 111, 103]⟩, .string ⟨#[98, 111, 98]⟩, .int .i64 1, .int .i64 0, .int .i64 0, .slice A1 1 1] 25
            have Ke : Blk w5 w3.heap.size 25 #[.string ⟨#[97, 110, 110]⟩, .int .i64 5, .int .i64 1, .int .i64 0, .int .i64 x, .string ⟨#[108, 111, 103]⟩, .string ⟨#[98, 111, 98]⟩, .int .i64 1, .int .i64 0, .int .i64 0, .slice A1 1 1] := by rw [hV]; exact Blk.new _ _ _
            rw [← hV]
            have hX5 : Ext W w5 := (hws.trans hE1).trans hEV
            have hS5 : rdB.Sl w5 A1 1 [[0]] := hS1.ext hEV
            clear y1 hV hS1 hEV
            have y1 := x1 _ hX5
            go_upto_region 23 with fail
            obtain ⟨V6, hV6, hE6, -⟩ := box1 w5 #[.string ⟨#[97, 110, 110]⟩, .int .i64 5, .int .i64 4, .int .i64 0, .int .i64 1, .string ⟨#[]⟩, .string ⟨#[]⟩, .int .i64 0, .int .i64 0, .int .i64 x, .slice none 0 0] 25
            have Km : Blk V6 w5.heap.size 25 #[.string ⟨#[97, 110, 110]⟩, .int .i64 5, .int .i64 4, .int .i64 0, .int .i64 1, .string ⟨#[]⟩, .string ⟨#[]⟩, .int .i64 0, .int .i64 0, .int .i64 x, .slice none 0 0] := by rw [hV6]; exact Blk.new _ _ _
            rw [← hV6]
            have Ke := Ke.ext hE6
            have hX6 := hX5.trans hE6
            have hS6 := hS5.ext hE6
            clear hV6 hX5 hS5 hE6 y1
            have ac0 := Ke.cell 0 (v := .string ⟨#[97, 110, 110]⟩) rfl
            have ar0 := fun (w' : World) (h : Ext V6 w') => h.cellk ac0
            have ac1 := Ke.cell 1 (v := .int .i64 5) rfl
            have ar1 := fun (w' : World) (h : Ext V6 w') => h.cellk ac1
            have ac2 := Ke.cell 2 (v := .int .i64 1) rfl
            have ar2 := fun (w' : World) (h : Ext V6 w') => h.cellk ac2
            have ac3 := Ke.cell 3 (v := .int .i64 0) rfl
            have ar3 := fun (w' : World) (h : Ext V6 w') => h.cellk ac3
            have ac4 := Ke.cell 4 (v := .int .i64 x) rfl
            have ar4 := fun (w' : World) (h : Ext V6 w') => h.cellk ac4
            have ac5 := Ke.cell 5 (v := .string ⟨#[108, 111, 103]⟩) rfl
            have ar5 := fun (w' : World) (h : Ext V6 w') => h.cellk ac5
            have ac6 := Ke.cell 6 (v := .string ⟨#[98, 111, 98]⟩) rfl
            have ar6 := fun (w' : World) (h : Ext V6 w') => h.cellk ac6
            have ac7 := Ke.cell 7 (v := .int .i64 1) rfl
            have ar7 := fun (w' : World) (h : Ext V6 w') => h.cellk ac7
            have ac8 := Ke.cell 8 (v := .int .i64 0) rfl
            have ar8 := fun (w' : World) (h : Ext V6 w') => h.cellk ac8
            have ac9 := Ke.cell 9 (v := .int .i64 0) rfl
            have ar9 := fun (w' : World) (h : Ext V6 w') => h.cellk ac9
            have ac10 := Ke.cell 10 (v := .slice A1 1 1) rfl
            have ar10 := fun (w' : World) (h : Ext V6 w') => h.cellk ac10
            have bc0 := Km.cell 0 (v := .string ⟨#[97, 110, 110]⟩) rfl
            have br0 := fun (w' : World) (h : Ext V6 w') => h.cellk bc0
            have bc1 := Km.cell 1 (v := .int .i64 5) rfl
            have br1 := fun (w' : World) (h : Ext V6 w') => h.cellk bc1
            have bc2 := Km.cell 2 (v := .int .i64 4) rfl
            have br2 := fun (w' : World) (h : Ext V6 w') => h.cellk bc2
            have bc3 := Km.cell 3 (v := .int .i64 0) rfl
            have br3 := fun (w' : World) (h : Ext V6 w') => h.cellk bc3
            have bc4 := Km.cell 4 (v := .int .i64 1) rfl
            have br4 := fun (w' : World) (h : Ext V6 w') => h.cellk bc4
            have bc5 := Km.cell 5 (v := .string ⟨#[]⟩) rfl
            have br5 := fun (w' : World) (h : Ext V6 w') => h.cellk bc5
            have bc6 := Km.cell 6 (v := .string ⟨#[]⟩) rfl
            have br6 := fun (w' : World) (h : Ext V6 w') => h.cellk bc6
            have bc7 := Km.cell 7 (v := .int .i64 0) rfl
            have br7 := fun (w' : World) (h : Ext V6 w') => h.cellk bc7
            have bc8 := Km.cell 8 (v := .int .i64 0) rfl
            have br8 := fun (w' : World) (h : Ext V6 w') => h.cellk bc8
            have bc9 := Km.cell 9 (v := .int .i64 x) rfl
            have br9 := fun (w' : World) (h : Ext V6 w') => h.cellk bc9
            have bc10 := Km.cell 10 (v := .slice none 0 0) rfl
            have br10 := fun (w' : World) (h : Ext V6 w') => h.cellk bc10
            have sx := fun (w' : World) (h : Ext V6 w') => hX6.trans h
            have h1 := fun (w' : World) (h : Ext V6 w') => puts_walk w' (lset 3 x) A1 1 (by rw [lset_sealed]; exact hS6.ext h) (by rw [lset_sealed]; exact Nat.le_refl _) (lset_in 3 x hxb)
            have h2 := fun (w' : World) => puts_walk w' (mset 4 x) none 0 (Rd.Sl.none _ _ none) (Nat.le_refl _) (mset_in 4 (by decide) x hxb)
            have h3 := fun (w' : World) => back_walk w' (mset 4 x) none 0 (Rd.Sl.none _ _ none) (Nat.le_refl _) (mset_in 4 (by decide) x hxb) none 0 [] (nil_bytes _) (Nat.le_refl _) (Nat.zero_le _)
            have h4 := fun (w' : World) (h : Ext V6 w') => Three.fields_walk w' (lset 3 x) A1 1 (by rw [lset_sealed]; exact hS6.ext h) (by rw [lset_sealed]; exact Nat.le_refl _) (lset_in 3 x hxb) k x (by unfold intOk; omega) hxb
            rw [lset_3] at h1 h4
            dsimp only [mset, List.length_nil, List.length_cons] at h1 h2 h3 h4
            simp only [Nat.reduceAdd, Nat.zero_add] at h1 h2 h3 h4
            refine wp_region_noPanic ?_
            refine tr_start (.y 0 (.e 1 (.y 2 (.y 3 (.y 4 (.e 5 (.y 6 (.y 7 (.y 8 (.y 9 (.e 10 (.y 11 (.y 12 (.y 13 (.y 14 (.y 15 (.y 16 (.y 17 (.y 18 (.y 19 (.e 20 (.y 21 (.y 22 .nil))))))))))))))))))))))) (fun w' => Ext V6 w') (by kernel_rfl) (by kernel_rfl) (fun _ _ _ _ _ h => h) (by (repeat (first | assumption | exact Ext.refl _ | refine Ext.drew ?_ | refine Ext.alloc ?_ _ | refine Ext.drewN ?_ _ | refine Ext.trans ?_ (by assumption)))) ?_
            iterate 1 (first | (refine tr_off (a' := ?_) rfl rfl (by rfl) ?_ ?_; rotate_left 1; (· simp only [Act.put, List.setIfInBounds_toArray, List.set_cons_zero, List.set_cons_succ]; rfl)) | (refine tr_y (v := ?_) (a' := ?_) rfl rfl (by rfl) (fun w' hw' => ?_) ?_ ?_; rotate_left 2; (· go_simp; with_reducible rfl); (· simp only [Act.put, List.setIfInBounds_toArray, List.set_cons_zero, List.set_cons_succ]; rfl)))
            have hYd : Ext V6 V6.drew := by (repeat (first | assumption | exact Ext.refl _ | refine Ext.drew ?_ | refine Ext.alloc ?_ _ | refine Ext.drewN ?_ _ | refine Ext.trans ?_ (by assumption)))
            generalize V6.drew = wd at hYd ⊢
            refine tr_call (args := ?_) rfl Tryd.func3 (by kernel_rfl) rfl (by rfl) rfl rfl ?_ ?_
            rotate_left 1
            · go_simp; rfl
            (with_reducible refine (h1 _ hYd).mono ?_)
            rintro e w7 ⟨rfl, hE7⟩
            refine ⟨_, _, rfl, hYd.trans hE7, (by simp only [Act.put, List.setIfInBounds_toArray, List.set_cons_zero, List.set_cons_succ]; rfl), ?_⟩
            iterate 3 (first | (refine tr_off (a' := ?_) rfl rfl (by rfl) ?_ ?_; rotate_left 1; (· simp only [Act.put, List.setIfInBounds_toArray, List.set_cons_zero, List.set_cons_succ]; rfl)) | (refine tr_y (v := ?_) (a' := ?_) rfl rfl (by rfl) (fun w' hw' => ?_) ?_ ?_; rotate_left 2; (· go_simp; with_reducible rfl); (· simp only [Act.put, List.setIfInBounds_toArray, List.set_cons_zero, List.set_cons_succ]; rfl)))
            have hY7 := hYd.trans hE7
            refine tr_call (args := ?_) rfl Tryd.func3 (by kernel_rfl) rfl (by rfl) rfl rfl ?_ ?_
            rotate_left 1
            · go_simp; rfl
            (with_reducible refine (h2 _).mono ?_)
            rintro e w8 ⟨rfl, hE8⟩
            refine ⟨_, _, rfl, hY7.trans hE8, (by simp only [Act.put, List.setIfInBounds_toArray, List.set_cons_zero, List.set_cons_succ]; rfl), ?_⟩
            iterate 4 (first | (refine tr_off (a' := ?_) rfl rfl (by rfl) ?_ ?_; rotate_left 1; (· simp only [Act.put, List.setIfInBounds_toArray, List.set_cons_zero, List.set_cons_succ]; rfl)) | (refine tr_y (v := ?_) (a' := ?_) rfl rfl (by rfl) (fun w' hw' => ?_) ?_ ?_; rotate_left 2; (· go_simp; with_reducible rfl); (· simp only [Act.put, List.setIfInBounds_toArray, List.set_cons_zero, List.set_cons_succ]; rfl)))
            have hY8 := hY7.trans hE8
            refine tr_call (args := ?_) rfl Tryd.func5 (by kernel_rfl) rfl (by rfl) rfl rfl ?_ ?_
            rotate_left 1
            · go_simp; rfl
            (with_reducible refine (h3 _).mono ?_)
            rintro e w9 ⟨rfl, hE9⟩
            refine ⟨_, _, rfl, hY8.trans hE9, (by simp only [Act.put, List.setIfInBounds_toArray, List.set_cons_zero, List.set_cons_succ]; rfl), ?_⟩
            iterate 9 (first | (refine tr_off (a' := ?_) rfl rfl (by rfl) ?_ ?_; rotate_left 1; (· simp only [Act.put, List.setIfInBounds_toArray, List.set_cons_zero, List.set_cons_succ]; rfl)) | (refine tr_y (v := ?_) (a' := ?_) rfl rfl (by rfl) (fun w' hw' => ?_) ?_ ?_; rotate_left 2; (· go_simp; with_reducible rfl); (· simp only [Act.put, List.setIfInBounds_toArray, List.set_cons_zero, List.set_cons_succ]; rfl)))
            have hY9 := hY8.trans hE9
            refine tr_call (args := ?_) rfl Tryd.func7 (by kernel_rfl) rfl (by rfl) rfl rfl ?_ ?_
            rotate_left 1
            · go_simp; rfl
            (with_reducible refine (h4 _ hY9).mono ?_)
            rintro e w10 ⟨rfl, hE10⟩
            refine ⟨_, _, rfl, hY9.trans hE10, (by simp only [Act.put, List.setIfInBounds_toArray, List.set_cons_zero, List.set_cons_succ]; rfl), ?_⟩
            iterate 2 (first | (refine tr_off (a' := ?_) rfl rfl (by rfl) ?_ ?_; rotate_left 1; (· simp only [Act.put, List.setIfInBounds_toArray, List.set_cons_zero, List.set_cons_succ]; rfl)) | (refine tr_y (v := ?_) (a' := ?_) rfl rfl (by rfl) (fun w' hw' => ?_) ?_ ?_; rotate_left 2; (· go_simp; with_reducible rfl); (· simp only [Act.put, List.setIfInBounds_toArray, List.set_cons_zero, List.set_cons_succ]; rfl)))
            have hX10 := hX6.trans (hY9.trans hE10)
            refine tr_end (NoPanic.normal ?_)
            go_wp2_with fail
            go_roundw
            case rel => first | exact ⟨4, by omega, by first | rfl | go_num | simp, hX10⟩ | ((repeat apply Exists.intro); exact ⟨⟨4, by omega, by first | rfl | go_num | simp, hX10⟩, rfl⟩)
            case measure => simp [intOf]
          · rw [show ((4 : Nat) : Int) = 4 from rfl]
            go_upto_region 22 with (go_at_call 26; (with_reducible refine (hla _).mono ?_); rintro e w3 ⟨A1, rfl, hS1, hE1⟩; have y1 := x1 _ ((hws.trans hE1).trans ((Ext.refl w3).alloc (.cells #[.string ⟨#[97, 110, 110]⟩, .int .i64 5, .int .i64 1, .int .i64 0, .int .i64 1, .string ⟨#[108, 111, 103]⟩, .string ⟨#[98, 111, 98]⟩, .int .i64 1, .int .i64 0, .int .i64 0, .slice A1 1 1] 25))))
            obtain ⟨w5, hV, hEV, -⟩ := box1 w3 #[.string ⟨#[97, 110, 110]⟩, .int .i64 5, .int .i64 1, .int .i64 0, .int .i64 1, .string ⟨#[108, 111, 103]⟩, .string ⟨#[98, 111, 98]⟩, .int .i64 x, .int .i64 0, .int .i64 0, .slice A1 1 1] 25
            have Ke : Blk w5 w3.heap.size 25 #[.string ⟨#[97, 110, 110]⟩, .int .i64 5, .int .i64 1, .int .i64 0, .int .i64 1, .string ⟨#[108, 111, 103]⟩, .string ⟨#[98, 111, 98]⟩, .int .i64 x, .int .i64 0, .int .i64 0, .slice A1 1 1] := by rw [hV]; exact Blk.new _ _ _
            rw [← hV]
            have hX5 : Ext W w5 := (hws.trans hE1).trans hEV
            have hS5 : rdB.Sl w5 A1 1 [[0]] := hS1.ext hEV
            clear y1 hV hS1 hEV
            have y1 := x1 _ hX5
            go_upto_region 23 with fail
            obtain ⟨V6, hV6, hE6, -⟩ := box1 w5 #[.string ⟨#[97, 110, 110]⟩, .int .i64 5, .int .i64 5, .int .i64 0, .int .i64 1, .string ⟨#[]⟩, .string ⟨#[]⟩, .int .i64 0, .int .i64 0, .int .i64 x, .slice none 0 0] 25
            have Km : Blk V6 w5.heap.size 25 #[.string ⟨#[97, 110, 110]⟩, .int .i64 5, .int .i64 5, .int .i64 0, .int .i64 1, .string ⟨#[]⟩, .string ⟨#[]⟩, .int .i64 0, .int .i64 0, .int .i64 x, .slice none 0 0] := by rw [hV6]; exact Blk.new _ _ _
            rw [← hV6]
            have Ke := Ke.ext hE6
            have hX6 := hX5.trans hE6
            have hS6 := hS5.ext hE6
            clear hV6 hX5 hS5 hE6 y1
            have ac0 := Ke.cell 0 (v := .string ⟨#[97, 110, 110]⟩) rfl
            have ar0 := fun (w' : World) (h : Ext V6 w') => h.cellk ac0
            have ac1 := Ke.cell 1 (v := .int .i64 5) rfl
            have ar1 := fun (w' : World) (h : Ext V6 w') => h.cellk ac1
            have ac2 := Ke.cell 2 (v := .int .i64 1) rfl
            have ar2 := fun (w' : World) (h : Ext V6 w') => h.cellk ac2
            have ac3 := Ke.cell 3 (v := .int .i64 0) rfl
            have ar3 := fun (w' : World) (h : Ext V6 w') => h.cellk ac3
            have ac4 := Ke.cell 4 (v := .int .i64 1) rfl
            have ar4 := fun (w' : World) (h : Ext V6 w') => h.cellk ac4
            have ac5 := Ke.cell 5 (v := .string ⟨#[108, 111, 103]⟩) rfl
            have ar5 := fun (w' : World) (h : Ext V6 w') => h.cellk ac5
            have ac6 := Ke.cell 6 (v := .string ⟨#[98, 111, 98]⟩) rfl
            have ar6 := fun (w' : World) (h : Ext V6 w') => h.cellk ac6
            have ac7 := Ke.cell 7 (v := .int .i64 x) rfl
            have ar7 := fun (w' : World) (h : Ext V6 w') => h.cellk ac7
            have ac8 := Ke.cell 8 (v := .int .i64 0) rfl
            have ar8 := fun (w' : World) (h : Ext V6 w') => h.cellk ac8
            have ac9 := Ke.cell 9 (v := .int .i64 0) rfl
            have ar9 := fun (w' : World) (h : Ext V6 w') => h.cellk ac9
            have ac10 := Ke.cell 10 (v := .slice A1 1 1) rfl
            have ar10 := fun (w' : World) (h : Ext V6 w') => h.cellk ac10
            have bc0 := Km.cell 0 (v := .string ⟨#[97, 110, 110]⟩) rfl
            have br0 := fun (w' : World) (h : Ext V6 w') => h.cellk bc0
            have bc1 := Km.cell 1 (v := .int .i64 5) rfl
            have br1 := fun (w' : World) (h : Ext V6 w') => h.cellk bc1
            have bc2 := Km.cell 2 (v := .int .i64 5) rfl
            have br2 := fun (w' : World) (h : Ext V6 w') => h.cellk bc2
            have bc3 := Km.cell 3 (v := .int .i64 0) rfl
            have br3 := fun (w' : World) (h : Ext V6 w') => h.cellk bc3
            have bc4 := Km.cell 4 (v := .int .i64 1) rfl
            have br4 := fun (w' : World) (h : Ext V6 w') => h.cellk bc4
            have bc5 := Km.cell 5 (v := .string ⟨#[]⟩) rfl
            have br5 := fun (w' : World) (h : Ext V6 w') => h.cellk bc5
            have bc6 := Km.cell 6 (v := .string ⟨#[]⟩) rfl
            have br6 := fun (w' : World) (h : Ext V6 w') => h.cellk bc6
            have bc7 := Km.cell 7 (v := .int .i64 0) rfl
            have br7 := fun (w' : World) (h : Ext V6 w') => h.cellk bc7
            have bc8 := Km.cell 8 (v := .int .i64 0) rfl
            have br8 := fun (w' : World) (h : Ext V6 w') => h.cellk bc8
            have bc9 := Km.cell 9 (v := .int .i64 x) rfl
            have br9 := fun (w' : World) (h : Ext V6 w') => h.cellk bc9
            have bc10 := Km.cell 10 (v := .slice none 0 0) rfl
            have br10 := fun (w' : World) (h : Ext V6 w') => h.cellk bc10
            have sx := fun (w' : World) (h : Ext V6 w') => hX6.trans h
            have h1 := fun (w' : World) (h : Ext V6 w') => puts_walk w' (lset 4 x) A1 1 (by rw [lset_sealed]; exact hS6.ext h) (by rw [lset_sealed]; exact Nat.le_refl _) (lset_in 4 x hxb)
            have h2 := fun (w' : World) => puts_walk w' (mset 5 x) none 0 (Rd.Sl.none _ _ none) (Nat.le_refl _) (mset_in 5 (by decide) x hxb)
            have h3 := fun (w' : World) => back_walk w' (mset 5 x) none 0 (Rd.Sl.none _ _ none) (Nat.le_refl _) (mset_in 5 (by decide) x hxb) none 0 [] (nil_bytes _) (Nat.le_refl _) (Nat.zero_le _)
            have h4 := fun (w' : World) (h : Ext V6 w') => Three.fields_walk w' (lset 4 x) A1 1 (by rw [lset_sealed]; exact hS6.ext h) (by rw [lset_sealed]; exact Nat.le_refl _) (lset_in 4 x hxb) k x (by unfold intOk; omega) hxb
            rw [lset_4] at h1 h4
            dsimp only [mset, List.length_nil, List.length_cons] at h1 h2 h3 h4
            simp only [Nat.reduceAdd, Nat.zero_add] at h1 h2 h3 h4
            refine wp_region_noPanic ?_
            refine tr_start (.y 0 (.e 1 (.y 2 (.y 3 (.y 4 (.e 5 (.y 6 (.y 7 (.y 8 (.y 9 (.e 10 (.y 11 (.y 12 (.y 13 (.y 14 (.y 15 (.y 16 (.y 17 (.y 18 (.y 19 (.e 20 (.y 21 (.y 22 .nil))))))))))))))))))))))) (fun w' => Ext V6 w') (by kernel_rfl) (by kernel_rfl) (fun _ _ _ _ _ h => h) (by (repeat (first | assumption | exact Ext.refl _ | refine Ext.drew ?_ | refine Ext.alloc ?_ _ | refine Ext.drewN ?_ _ | refine Ext.trans ?_ (by assumption)))) ?_
            iterate 1 (first | (refine tr_off (a' := ?_) rfl rfl (by rfl) ?_ ?_; rotate_left 1; (· simp only [Act.put, List.setIfInBounds_toArray, List.set_cons_zero, List.set_cons_succ]; rfl)) | (refine tr_y (v := ?_) (a' := ?_) rfl rfl (by rfl) (fun w' hw' => ?_) ?_ ?_; rotate_left 2; (· go_simp; with_reducible rfl); (· simp only [Act.put, List.setIfInBounds_toArray, List.set_cons_zero, List.set_cons_succ]; rfl)))
            have hYd : Ext V6 V6.drew := by (repeat (first | assumption | exact Ext.refl _ | refine Ext.drew ?_ | refine Ext.alloc ?_ _ | refine Ext.drewN ?_ _ | refine Ext.trans ?_ (by assumption)))
            generalize V6.drew = wd at hYd ⊢
            refine tr_call (args := ?_) rfl Tryd.func3 (by kernel_rfl) rfl (by rfl) rfl rfl ?_ ?_
            rotate_left 1
            · go_simp; rfl
            (with_reducible refine (h1 _ hYd).mono ?_)
            rintro e w7 ⟨rfl, hE7⟩
            refine ⟨_, _, rfl, hYd.trans hE7, (by simp only [Act.put, List.setIfInBounds_toArray, List.set_cons_zero, List.set_cons_succ]; rfl), ?_⟩
            iterate 3 (first | (refine tr_off (a' := ?_) rfl rfl (by rfl) ?_ ?_; rotate_left 1; (· simp only [Act.put, List.setIfInBounds_toArray, List.set_cons_zero, List.set_cons_succ]; rfl)) | (refine tr_y (v := ?_) (a' := ?_) rfl rfl (by rfl) (fun w' hw' => ?_) ?_ ?_; rotate_left 2; (· go_simp; with_reducible rfl); (· simp only [Act.put, List.setIfInBounds_toArray, List.set_cons_zero, List.set_cons_succ]; rfl)))
            have hY7 := hYd.trans hE7
            refine tr_call (args := ?_) rfl Tryd.func3 (by kernel_rfl) rfl (by rfl) rfl rfl ?_ ?_
            rotate_left 1
            · go_simp; rfl
            (with_reducible refine (h2 _).mono ?_)
            rintro e w8 ⟨rfl, hE8⟩
            refine ⟨_, _, rfl, hY7.trans hE8, (by simp only [Act.put, List.setIfInBounds_toArray, List.set_cons_zero, List.set_cons_succ]; rfl), ?_⟩
            iterate 4 (first | (refine tr_off (a' := ?_) rfl rfl (by rfl) ?_ ?_; rotate_left 1; (· simp only [Act.put, List.setIfInBounds_toArray, List.set_cons_zero, List.set_cons_succ]; rfl)) | (refine tr_y (v := ?_) (a' := ?_) rfl rfl (by rfl) (fun w' hw' => ?_) ?_ ?_; rotate_left 2; (· go_simp; with_reducible rfl); (· simp only [Act.put, List.setIfInBounds_toArray, List.set_cons_zero, List.set_cons_succ]; rfl)))
            have hY8 := hY7.trans hE8
            refine tr_call (args := ?_) rfl Tryd.func5 (by kernel_rfl) rfl (by rfl) rfl rfl ?_ ?_
            rotate_left 1
            · go_simp; rfl
            (with_reducible refine (h3 _).mono ?_)
            rintro e w9 ⟨rfl, hE9⟩
            refine ⟨_, _, rfl, hY8.trans hE9, (by simp only [Act.put, List.setIfInBounds_toArray, List.set_cons_zero, List.set_cons_succ]; rfl), ?_⟩
            iterate 9 (first | (refine tr_off (a' := ?_) rfl rfl (by rfl) ?_ ?_; rotate_left 1; (· simp only [Act.put, List.setIfInBounds_toArray, List.set_cons_zero, List.set_cons_succ]; rfl)) | (refine tr_y (v := ?_) (a' := ?_) rfl rfl (by rfl) (fun w' hw' => ?_) ?_ ?_; rotate_left 2; (· go_simp; with_reducible rfl); (· simp only [Act.put, List.setIfInBounds_toArray, List.set_cons_zero, List.set_cons_succ]; rfl)))
            have hY9 := hY8.trans hE9
            refine tr_call (args := ?_) rfl Tryd.func7 (by kernel_rfl) rfl (by rfl) rfl rfl ?_ ?_
            rotate_left 1
            · go_simp; rfl
            (with_reducible refine (h4 _ hY9).mono ?_)
            rintro e w10 ⟨rfl, hE10⟩
            refine ⟨_, _, rfl, hY9.trans hE10, (by simp only [Act.put, List.setIfInBounds_toArray, List.set_cons_zero, List.set_cons_succ]; rfl), ?_⟩
            iterate 2 (first | (refine tr_off (a' := ?_) rfl rfl (by rfl) ?_ ?_; rotate_left 1; (· simp only [Act.put, List.setIfInBounds_toArray, List.set_cons_zero, List.set_cons_succ]; rfl)) | (refine tr_y (v := ?_) (a' := ?_) rfl rfl (by rfl) (fun w' hw' => ?_) ?_ ?_; rotate_left 2; (· go_simp; with_reducible rfl); (· simp only [Act.put, List.setIfInBounds_toArray, List.set_cons_zero, List.set_cons_succ]; rfl)))
            have hX10 := hX6.trans (hY9.trans hE10)
            refine tr_end (NoPanic.normal ?_)
            go_wp2_with fail
            go_roundw
            case rel => first | exact ⟨5, by omega, by first | rfl | go_num | simp, hX10⟩ | ((repeat apply Exists.intro); exact ⟨⟨5, by omega, by first | rfl | go_num | simp, hX10⟩, rfl⟩)
            case measure => simp [intOf]
          · rw [show ((5 : Nat) : Int) = 5 from rfl]
            go_upto_region 22 with (go_at_call 26; (with_reducible refine (hla _).mono ?_); rintro e w3 ⟨A1, rfl, hS1, hE1⟩; have y1 := x1 _ ((hws.trans hE1).trans ((Ext.refl w3).alloc (.cells #[.string ⟨#[97, 110, 110]⟩, .int .i64 5, .int .i64 1, .int .i64 0, .int .i64 1, .string ⟨#[108, 111, 103]⟩, .string ⟨#[98, 111, 98]⟩, .int .i64 1, .int .i64 0, .int .i64 0, .slice A1 1 1] 25))))
            obtain ⟨w5, hV, hEV, -⟩ := box1 w3 #[.string ⟨#[97, 110, 110]⟩, .int .i64 5, .int .i64 1, .int .i64 0, .int .i64 1, .string ⟨#[108, 111, 103]⟩, .string ⟨#[98, 111, 98]⟩, .int .i64 1, .int .i64 x, .int .i64 0, .slice A1 1 1] 25
            have Ke : Blk w5 w3.heap.size 25 #[.string ⟨#[97, 110, 110]⟩, .int .i64 5, .int .i64 1, .int .i64 0, .int .i64 1, .string ⟨#[108, 111, 103]⟩, .string ⟨#[98, 111, 98]⟩, .int .i64 1, .int .i64 x, .int .i64 0, .slice A1 1 1] := by rw [hV]; exact Blk.new _ _ _
            rw [← hV]
            have hX5 : Ext W w5 := (hws.trans hE1).trans hEV
            have hS5 : rdB.Sl w5 A1 1 [[0]] := hS1.ext hEV
            clear y1 hV hS1 hEV
            have y1 := x1 _ hX5
            go_upto_region 23 with fail
            obtain ⟨V6, hV6, hE6, -⟩ := box1 w5 #[.string ⟨#[97, 110, 110]⟩, .int .i64 5, .int .i64 6, .int .i64 0, .int .i64 1, .string ⟨#[]⟩, .string ⟨#[]⟩, .int .i64 0, .int .i64 0, .int .i64 x, .slice none 0 0] 25
            have Km : Blk V6 w5.heap.size 25 #[.string ⟨#[97, 110, 110]⟩, .int .i64 5, .int .i64 6, .int .i64 0, .int .i64 1, .string ⟨#[]⟩, .string ⟨#[]⟩, .int .i64 0, .int .i64 0, .int .i64 x, .slice none 0 0] := by rw [hV6]; exact Blk.new _ _ _
            rw [← hV6]
            have Ke := Ke.ext hE6
            have hX6 := hX5.trans hE6
            have hS6 := hS5.ext hE6
            clear hV6 hX5 hS5 hE6 y1
            have ac0 := Ke.cell 0 (v := .string ⟨#[97, 110, 110]⟩) rfl
            have ar0 := fun (w' : World) (h : Ext V6 w') => h.cellk ac0
            have ac1 := Ke.cell 1 (v := .int .i64 5) rfl
            have ar1 := fun (w' : World) (h : Ext V6 w') => h.cellk ac1
            have ac2 := Ke.cell 2 (v := .int .i64 1) rfl
            have ar2 := fun (w' : World) (h : Ext V6 w') => h.cellk ac2
            have ac3 := Ke.cell 3 (v := .int .i64 0) rfl
            have ar3 := fun (w' : World) (h : Ext V6 w') => h.cellk ac3
            have ac4 := Ke.cell 4 (v := .int .i64 1) rfl
            have ar4 := fun (w' : World) (h : Ext V6 w') => h.cellk ac4
            have ac5 := Ke.cell 5 (v := .string ⟨#[108, 111, 103]⟩) rfl
            have ar5 := fun (w' : World) (h : Ext V6 w') => h.cellk ac5
            have ac6 := Ke.cell 6 (v := .string ⟨#[98, 111, 98]⟩) rfl
            have ar6 := fun (w' : World) (h : Ext V6 w') => h.cellk ac6
            have ac7 := Ke.cell 7 (v := .int .i64 1) rfl
            have ar7 := fun (w' : World) (h : Ext V6 w') => h.cellk ac7
            have ac8 := Ke.cell 8 (v := .int .i64 x) rfl
            have ar8 := fun (w' : World) (h : Ext V6 w') => h.cellk ac8
            have ac9 := Ke.cell 9 (v := .int .i64 0) rfl
            have ar9 := fun (w' : World) (h : Ext V6 w') => h.cellk ac9
            have ac10 := Ke.cell 10 (v := .slice A1 1 1) rfl
            have ar10 := fun (w' : World) (h : Ext V6 w') => h.cellk ac10
            have bc0 := Km.cell 0 (v := .string ⟨#[97, 110, 110]⟩) rfl
            have br0 := fun (w' : World) (h : Ext V6 w') => h.cellk bc0
            have bc1 := Km.cell 1 (v := .int .i64 5) rfl
            have br1 := fun (w' : World) (h : Ext V6 w') => h.cellk bc1
            have bc2 := Km.cell 2 (v := .int .i64 6) rfl
            have br2 := fun (w' : World) (h : Ext V6 w') => h.cellk bc2
            have bc3 := Km.cell 3 (v := .int .i64 0) rfl
            have br3 := fun (w' : World) (h : Ext V6 w') => h.cellk bc3
            have bc4 := Km.cell 4 (v := .int .i64 1) rfl
            have br4 := fun (w' : World) (h : Ext V6 w') => h.cellk bc4
            have bc5 := Km.cell 5 (v := .string ⟨#[]⟩) rfl
            have br5 := fun (w' : World) (h : Ext V6 w') => h.cellk bc5
            have bc6 := Km.cell 6 (v := .string ⟨#[]⟩) rfl
            have br6 := fun (w' : World) (h : Ext V6 w') => h.cellk bc6
            have bc7 := Km.cell 7 (v := .int .i64 0) rfl
            have br7 := fun (w' : World) (h : Ext V6 w') => h.cellk bc7
            have bc8 := Km.cell 8 (v := .int .i64 0) rfl
            have br8 := fun (w' : World) (h : Ext V6 w') => h.cellk bc8
            have bc9 := Km.cell 9 (v := .int .i64 x) rfl
            have br9 := fun (w' : World) (h : Ext V6 w') => h.cellk bc9
            have bc10 := Km.cell 10 (v := .slice none 0 0) rfl
            have br10 := fun (w' : World) (h : Ext V6 w') => h.cellk bc10
            have sx := fun (w' : World) (h : Ext V6 w') => hX6.trans h
            have h1 := fun (w' : World) (h : Ext V6 w') => puts_walk w' (lset 5 x) A1 1 (by rw [lset_sealed]; exact hS6.ext h) (by rw [lset_sealed]; exact Nat.le_refl _) (lset_in 5 x hxb)
            have h2 := fun (w' : World) => puts_walk w' (mset 6 x) none 0 (Rd.Sl.none _ _ none) (Nat.le_refl _) (mset_in 6 (by decide) x hxb)
            have h3 := fun (w' : World) => back_walk w' (mset 6 x) none 0 (Rd.Sl.none _ _ none) (Nat.le_refl _) (mset_in 6 (by decide) x hxb) none 0 [] (nil_bytes _) (Nat.le_refl _) (Nat.zero_le _)
            have h4 := fun (w' : World) (h : Ext V6 w') => Three.fields_walk w' (lset 5 x) A1 1 (by rw [lset_sealed]; exact hS6.ext h) (by rw [lset_sealed]; exact Nat.le_refl _) (lset_in 5 x hxb) k x (by unfold intOk; omega) hxb
            rw [lset_5] at h1 h4
            dsimp only [mset, List.length_nil, List.length_cons] at h1 h2 h3 h4
            simp only [Nat.reduceAdd, Nat.zero_add] at h1 h2 h3 h4
            refine wp_region_noPanic ?_
            refine tr_start (.y 0 (.e 1 (.y 2 (.y 3 (.y 4 (.e 5 (.y 6 (.y 7 (.y 8 (.y 9 (.e 10 (.y 11 (.y 12 (.y 13 (.y 14 (.y 15 (.y 16 (.y 17 (.y 18 (.y 19 (.e 20 (.y 21 (.y 22 .nil))))))))))))))))))))))) (fun w' => Ext V6 w') (by kernel_rfl) (by kernel_rfl) (fun _ _ _ _ _ h => h) (by (repeat (first | assumption | exact Ext.refl _ | refine Ext.drew ?_ | refine Ext.alloc ?_ _ | refine Ext.drewN ?_ _ | refine Ext.trans ?_ (by assumption)))) ?_
            iterate 1 (first | (refine tr_off (a' := ?_) rfl rfl (by rfl) ?_ ?_; rotate_left 1; (· simp only [Act.put, List.setIfInBounds_toArray, List.set_cons_zero, List.set_cons_succ]; rfl)) | (refine tr_y (v := ?_) (a' := ?_) rfl rfl (by rfl) (fun w' hw' => ?_) ?_ ?_; rotate_left 2; (· go_simp; with_reducible rfl); (· simp only [Act.put, List.setIfInBounds_toArray, List.set_cons_zero, List.set_cons_succ]; rfl)))
            have hYd : Ext V6 V6.drew := by (repeat (first | assumption | exact Ext.refl _ | refine Ext.drew ?_ | refine Ext.alloc ?_ _ | refine Ext.drewN ?_ _ | refine Ext.trans ?_ (by assumption)))
            generalize V6.drew = wd at hYd ⊢
            refine tr_call (args := ?_) rfl Tryd.func3 (by kernel_rfl) rfl (by rfl) rfl rfl ?_ ?_
            rotate_left 1
            · go_simp; rfl
            (with_reducible refine (h1 _ hYd).mono ?_)
            rintro e w7 ⟨rfl, hE7⟩
            refine ⟨_, _, rfl, hYd.trans hE7, (by simp only [Act.put, List.setIfInBounds_toArray, List.set_cons_zero, List.set_cons_succ]; rfl), ?_⟩
            iterate 3 (first | (refine tr_off (a' := ?_) rfl rfl (by rfl) ?_ ?_; rotate_left 1; (· simp only [Act.put, List.setIfInBounds_toArray, List.set_cons_zero, List.set_cons_succ]; rfl)) | (refine tr_y (v := ?_) (a' := ?_) rfl rfl (by rfl) (fun w' hw' => ?_) ?_ ?_; rotate_left 2; (· go_simp; with_reducible rfl); (· simp only [Act.put, List.setIfInBounds_toArray, List.set_cons_zero, List.set_cons_succ]; rfl)))
            have hY7 := hYd.trans hE7
            refine tr_call (args := ?_) rfl Tryd.func3 (by kernel_rfl) rfl (by rfl) rfl rfl ?_ ?_
            rotate_left 1
            · go_simp; rfl
            (with_reducible refine (h2 _).mono ?_)
            rintro e w8 ⟨rfl, hE8⟩
            refine ⟨_, _, rfl, hY7.trans hE8, (by simp only [Act.put, List.setIfInBounds_toArray, List.set_cons_zero, List.set_cons_succ]; rfl), ?_⟩
            iterate 4 (first | (refine tr_off (a' := ?_) rfl rfl (by rfl) ?_ ?_; rotate_left 1; (· simp only [Act.put, List.setIfInBounds_toArray, List.set_cons_zero, List.set_cons_succ]; rfl)) | (refine tr_y (v := ?_) (a' := ?_) rfl rfl (by rfl) (fun w' hw' => ?_) ?_ ?_; rotate_left 2; (· go_simp; with_reducible rfl); (· simp only [Act.put, List.setIfInBounds_toArray, List.set_cons_zero, List.set_cons_succ]; rfl)))
            have hY8 := hY7.trans hE8
            refine tr_call (args := ?_) rfl Tryd.func5 (by kernel_rfl) rfl (by rfl) rfl rfl ?_ ?_
            rotate_left 1
            · go_simp; rfl
            (with_reducible refine (h3 _).mono ?_)
            rintro e w9 ⟨rfl, hE9⟩
            refine ⟨_, _, rfl, hY8.trans hE9, (by simp only [Act.put, List.setIfInBounds_toArray, List.set_cons_zero, List.set_cons_succ]; rfl), ?_⟩
            iterate 9 (first | (refine tr_off (a' := ?_) rfl rfl (by rfl) ?_ ?_; rotate_left 1; (· simp only [Act.put, List.setIfInBounds_toArray, List.set_cons_zero, List.set_cons_succ]; rfl)) | (refine tr_y (v := ?_) (a' := ?_) rfl rfl (by rfl) (fun w' hw' => ?_) ?_ ?_; rotate_left 2; (· go_simp; with_reducible rfl); (· simp only [Act.put, List.setIfInBounds_toArray, List.set_cons_zero, List.set_cons_succ]; rfl)))
            have hY9 := hY8.trans hE9
            refine tr_call (args := ?_) rfl Tryd.func7 (by kernel_rfl) rfl (by rfl) rfl rfl ?_ ?_
            rotate_left 1
            · go_simp; rfl
            (with_reducible refine (h4 _ hY9).mono ?_)
            rintro e w10 ⟨rfl, hE10⟩
            refine ⟨_, _, rfl, hY9.trans hE10, (by simp only [Act.put, List.setIfInBounds_toArray, List.set_cons_zero, List.set_cons_succ]; rfl), ?_⟩
            iterate 2 (first | (refine tr_off (a' := ?_) rfl rfl (by rfl) ?_ ?_; rotate_left 1; (· simp only [Act.put, List.setIfInBounds_toArray, List.set_cons_zero, List.set_cons_succ]; rfl)) | (refine tr_y (v := ?_) (a' := ?_) rfl rfl (by rfl) (fun w' hw' => ?_) ?_ ?_; rotate_left 2; (· go_simp; with_reducible rfl); (· simp only [Act.put, List.setIfInBounds_toArray, List.set_cons_zero, List.set_cons_succ]; rfl)))
            have hX10 := hX6.trans (hY9.trans hE10)
            refine tr_end (NoPanic.normal ?_)
            go_wp2_with fail
            go_roundw
            case rel => first | exact ⟨6, by omega, by first | rfl | go_num | simp, hX10⟩ | ((repeat apply Exists.intro); exact ⟨⟨6, by omega, by first | rfl | go_num | simp, hX10⟩, rfl⟩)
            case measure => simp [intOf]
        · obtain rfl : q = 6 := by omega
          go_wp2_with fail
          go_roundw
          case rel => exact ⟨k + 1, by omega, by go_num, hws⟩
          case measure => simp [intOf]; omega
    · obtain rfl : k = 15 := by omega
      have hpl := put_laid
      have hLl : (recB laidR).length ≤ 200 := by
        unfold recB
        simp only [List.length_append, txtB_len, numsB_len]
        decide
      obtain ⟨L, hL⟩ : ∃ L, recB laidR = L := ⟨_, rfl⟩
      simp only [hL] at hpl hLl
      dsimp only [laidR] at hpl
      clear hL hb
      go_wp2_with (first | (go_at_call 26; (with_reducible refine (hla _).mono ?_); rintro e w3 ⟨A1, rfl, hS1, hE1⟩) | (go_at_call 12; (with_reducible refine (hpl _ _ hS1).mono ?_); rintro e w4 ⟨A2, n2, c2, rfl, hn2, hc2, hS2, hE2⟩; have hX4 := (hwr.trans hE1).trans hE2; have HN := Lib.hid hn2; have hn200 : n2 ≤ 200 := (by omega); clear hn2 hLl hE2 hE1 hS1 hwr hpl))
      go_loopw [8] (fun i ws => ∃ q : Nat, q ≤ n2 ∧ i = .int .i64 q ∧ Ext w4 ws) (fun i _ => n2 - (intOf i).toNat)
      case atStart => exact ⟨0, by omega, rfl, Ext.refl _⟩
      case round =>
        obtain ⟨q, hq, rfl, hws⟩ := hrel
        by_cases hlt : q < n2
        · have hqI : decide ((q : Int) < (n2 : Int)) = true := by simp; omega
          have hqP : (q : Int) < (n2 : Int) := by omega
          have hcp := copyBytes_any wr A2 c2 L (by rw [HN.out]; exact hS2.ext hws) (by rw [HN.out]; exact hc2) (by rw [HN.out]; omega)
          rw [HN.out] at hcp
          go_upto_region 30 with (go_at_call 25; (with_reducible refine hcp.mono ?_); rintro e w9 ⟨v9, rfl, hown, hE9⟩)
          obtain ⟨A9, c9, rfl, hc9, -, hS9⟩ := own_bytes (lo := wr.heap.size) (hi := w9.heap.size) (l := L) (by rw [HN.out]; exact hown) (Nat.le_refl _) (Nat.le_refl _)
          rw [HN.out] at hc9 hS9 ⊢
          obtain ⟨b9, o9, rfl, z0⟩ := b_get hS9 q hlt
          obtain ⟨hlo, -, z1, zf, -⟩ := only_cell z0
          have hS9 := hS9.mono only_cle
          generalize L[q]'(by rw [HN.out]; exact hlt) = y0 at z0 z1
          have hxr := xor_one y0
          obtain ⟨y, hy⟩ : ∃ y, UInt8.ofNat (y0.toNat ^^^ 1) = y := ⟨_, rfl⟩
          rw [hy] at hxr
          have hst := sl_set hS9 q hlt y
          have hXs : Ext w4 _ := (hws.trans hE9).set (p := ⟨b9, o9 + q, none⟩) (Nat.le_trans hws.le hlo) (.int .u8 y.toNat)
          clear z0 hcp hown hy hS9
          go_upto_region 31 with fail
          generalize w9.setCell ⟨b9, o9 + q, none⟩ (.int .u8 y.toNat) = wx at hst hXs ⊢
          generalize L.set q y = L9 at hst
          have hl9 := hst.1
          obtain ⟨r3, hr3⟩ : ∃ r3, q % 3 = r3 := ⟨_, rfl⟩
          have hr3' : (q : Int).tmod 3 = (r3 : Int) := by rw [Int.tmod_eq_emod_of_nonneg (by omega)]; omega
          have hr30 : (0 : Int) ≤ (r3 : Int) := by omega
          have hr3n : r3 ≤ n2 := by omega
          have hsq := sl_take hS2 q hq
          have hsr := sl_take hst r3 hr3n
          have hlq : (L.take q).length = q := by rw [List.length_take, HN.out]; omega
          have hlr : (L9.take r3).length = r3 := by rw [List.length_take, hl9]; omega
          have h1 := fun (w' : World) (h : Ext wx w') => gets_walk w' (some ⟨b9, o9, none⟩) c9 L9 (by rw [hl9]; exact hst.ext h) (by rw [hl9]; exact hc9) (by rw [hl9]; omega)
          have h2 := fun (w' : World) (h : Ext w4 w') => gets_walk w' A2 c2 (L.take q) (by rw [hlq]; exact hsq.ext h) (by rw [hlq]; omega) (by rw [hlq]; omega)
          have h3 := fun (w' : World) A1 (h1 : rdB.Sl w' A1 1 laidR.sealed) (h : Ext wx w') => cut_walk w' laidR A1 1 h1 (Nat.le_refl _) (lset_in 0 5 (by decide)) q (by unfold intOk; omega) (some ⟨b9, o9, none⟩) c9 (L9.take r3) (by rw [hlr]; exact hsr.ext h) (by rw [hlr]; omega) (by rw [hlr]; omega)
          rw [hl9] at h1
          rw [hlq] at h2
          rw [hlr] at h3
          dsimp only [laidR, List.length_nil, List.length_cons] at h3
          simp only [Nat.reduceAdd, Nat.zero_add] at h3
          have hq2 : (q : Int) ≤ (c2 : Int) := by omega
          have hr9 : (r3 : Int) ≤ (c9 : Int) := by omega
          clear hxr zf z1 hst hl9 hr3 hlq hlr hsq hsr hS9
          refine wp_region_noPanic ?_
          refine tr_start (.y 0 (.e 1 (.y 2 (.y 3 (.y 4 (.y 5 (.y 6 (.e 7 (.y 8 (.y 9 (.y 10 (.y 12 (.y 13 (.y 14 (.y 15 (.y 16 (.e 11 (.e 17 (.y 18 (.y 19 .nil)))))))))))))))))))) (fun w' => Ext wx w') (by kernel_rfl) (by kernel_rfl) (fun _ _ _ _ _ h => h) (by (repeat (first | assumption | exact Ext.refl _ | refine Ext.drew ?_ | refine Ext.alloc ?_ _ | refine Ext.drewN ?_ _ | refine Ext.trans ?_ (by assumption)))) ?_
          iterate 1 (first | (refine tr_off (a' := ?_) rfl rfl (by rfl) ?_ ?_; rotate_left 1; (· simp only [Act.put, List.setIfInBounds_toArray, List.set_cons_zero, List.set_cons_succ]; rfl)) | (refine tr_y (v := ?_) (a' := ?_) rfl rfl (by rfl) (fun w' hw' => ?_) ?_ ?_; rotate_left 2; (· go_simp; with_reducible rfl); (· simp only [Act.put, List.setIfInBounds_toArray, List.set_cons_zero, List.set_cons_succ]; rfl)))
          have hYd : Ext wx wx.drew := by (repeat (first | assumption | exact Ext.refl _ | refine Ext.drew ?_ | refine Ext.alloc ?_ _ | refine Ext.drewN ?_ _ | refine Ext.trans ?_ (by assumption)))
          generalize wx.drew = wd at hYd ⊢
          refine tr_call (args := ?_) rfl Tryd.func4 (by kernel_rfl) rfl (by rfl) rfl rfl ?_ ?_
          rotate_left 1
          · go_simp; rfl
          (with_reducible refine (h1 _ hYd).mono ?_)
          rintro e w10 ⟨rfl, hE10⟩
          refine ⟨_, _, rfl, hYd.trans hE10, (by simp only [Act.put, List.setIfInBounds_toArray, List.set_cons_zero, List.set_cons_succ]; rfl), ?_⟩
          iterate 5 (first | (refine tr_off (a' := ?_) rfl rfl (by rfl) ?_ ?_; rotate_left 1; (· simp only [Act.put, List.setIfInBounds_toArray, List.set_cons_zero, List.set_cons_succ]; rfl)) | (refine tr_y (v := ?_) (a' := ?_) rfl rfl (by rfl) (fun w' hw' => ?_) ?_ ?_; rotate_left 2; (· go_simp; with_reducible rfl); (· simp only [Act.put, List.setIfInBounds_toArray, List.set_cons_zero, List.set_cons_succ]; rfl)))
          have hY10 := hYd.trans hE10
          refine tr_call (args := ?_) rfl Tryd.func4 (by kernel_rfl) rfl (by rfl) rfl rfl ?_ ?_
          rotate_left 1
          · go_simp; rfl
          (with_reducible refine (h2 _ (hXs.trans hY10)).mono ?_)
          rintro e w11 ⟨rfl, hE11⟩
          refine ⟨_, _, rfl, hY10.trans hE11, (by simp only [Act.put, List.setIfInBounds_toArray, List.set_cons_zero, List.set_cons_succ]; rfl), ?_⟩
          iterate 8 (first | (refine tr_off (a' := ?_) rfl rfl (by rfl) ?_ ?_; rotate_left 1; (· simp only [Act.put, List.setIfInBounds_toArray, List.set_cons_zero, List.set_cons_succ]; rfl)) | (refine tr_y (v := ?_) (a' := ?_) rfl rfl (by rfl) (fun w' hw' => ?_) ?_ ?_; rotate_left 2; (· go_simp; with_reducible rfl); (· simp only [Act.put, List.setIfInBounds_toArray, List.set_cons_zero, List.set_cons_succ]; rfl)))
          have hY11 := hY10.trans hE11
          refine tr_call (args := ?_) rfl Tryd.func26 (by kernel_rfl) rfl (by rfl) rfl rfl ?_ ?_
          rotate_left 1
          · go_simp; rfl
          (with_reducible refine (hla _).mono ?_)
          rintro e w12 ⟨A5, rfl, hS5, hE12⟩
          refine ⟨_, _, rfl, hY11.trans hE12, (by simp only [Act.put, List.setIfInBounds_toArray, List.set_cons_zero, List.set_cons_succ]; rfl), ?_⟩
          have hY12 := hY11.trans hE12
          refine tr_call (args := ?_) rfl Tryd.func6 (by kernel_rfl) rfl (by rfl) rfl rfl ?_ ?_
          rotate_left 1
          · go_simp; rfl
          (with_reducible refine (h3 _ _ hS5 hY12).mono ?_)
          rintro e w13 ⟨rfl, hE13⟩
          refine ⟨_, _, rfl, hY12.trans hE13, (by simp only [Act.put, List.setIfInBounds_toArray, List.set_cons_zero, List.set_cons_succ]; rfl), ?_⟩
          iterate 2 (first | (refine tr_off (a' := ?_) rfl rfl (by rfl) ?_ ?_; rotate_left 1; (· simp only [Act.put, List.setIfInBounds_toArray, List.set_cons_zero, List.set_cons_succ]; rfl)) | (refine tr_y (v := ?_) (a' := ?_) rfl rfl (by rfl) (fun w' hw' => ?_) ?_ ?_; rotate_left 2; (· go_simp; with_reducible rfl); (· simp only [Act.put, List.setIfInBounds_toArray, List.set_cons_zero, List.set_cons_succ]; rfl)))
          have hX13 := hXs.trans (hY12.trans hE13)
          refine tr_end (NoPanic.normal ?_)
          clear hq2 hr9 h1 h2 h3 hr3' hr3n
          go_wp2_with fail
          go_roundw
          case rel => first | exact ⟨q + 1, by omega, by go_num, hX13⟩ | ((repeat apply Exists.intro); exact ⟨⟨q + 1, by omega, by go_num, hX13⟩, rfl⟩)
          case measure => simp [intOf]; omega
        · obtain rfl : q = n2 := by omega
          have hl2 := laid2_any
          dsimp only [laidR] at hl2
          have hX5 := hX4.trans hws
          clear hS2 hc2 HN hws hX4 hla
          go_upto_region 34 with (go_at_call 26; (with_reducible refine (hl2 _).mono ?_); rintro e w6 ⟨A6, A0, rfl, ho6, ho0, hE6⟩)
          obtain ⟨V, hV, hEV, -⟩ := box1 w6 #[.string ⟨#[97, 110, 110]⟩, .int .i64 5, .int .i64 1, .int .i64 0, .int .i64 1, .string ⟨#[108, 111, 103]⟩, .string ⟨#[98, 111, 98]⟩, .int .i64 1, .int .i64 0, .int .i64 0, .slice A6 1 1] 25
          have Kr : Blk V w6.heap.size 25 #[.string ⟨#[97, 110, 110]⟩, .int .i64 5, .int .i64 1, .int .i64 0, .int .i64 1, .string ⟨#[108, 111, 103]⟩, .string ⟨#[98, 111, 98]⟩, .int .i64 1, .int .i64 0, .int .i64 0, .slice A6 1 1] := by rw [hV]; exact Blk.new _ _ _
          rw [← hV]
          have hX6 := hX5.trans (hE6.trans hEV)
          have ho6 := own_base (own_ext ho6 hEV) hX5.le
          have ho0 := own_base (own_ext ho0 hEV) hX5.le
          have hg6 : W.heap.size ≤ w6.heap.size := (hX5.trans hE6).le
          obtain ⟨g6, hge⟩ : ∃ g, w6.heap.size = g := ⟨_, rfl⟩
          rw [hge] at Kr hg6 ⊢
          clear hV hEV hE6 hl2 hX5 hge
          have hro := row_any
          go_wp2_with fail
          have hel0 : ∀ i (h : i < ([[0]] : List (List UInt8)).length), ∃ u, ([.slice A0 1 1] : List Value)[i]? = some u ∧ V.ownsRow W.heap.size 5 1 u ([[0]] : List (List UInt8))[i].length (([[0]] : List (List UInt8))[i].flatMap encB) := fun i h => by
            obtain rfl : i = 0 := by simpa using h
            exact ⟨_, rfl, ho0⟩
          go_loopw [11] (fun i ws => ∃ (q : Nat) (v : Value) (rows : List (List UInt8)) (vs : List Value), q ≤ 6 ∧ i = .int .i64 q ∧ Blk ws g6 25 #[.string ⟨#[97, 110, 110]⟩, .int .i64 5, .int .i64 1, .int .i64 0, .int .i64 1, .string ⟨#[108, 111, 103]⟩, .string ⟨#[98, 111, 98]⟩, .int .i64 1, .int .i64 0, .int .i64 0, v] ∧ ws.ownsRow W.heap.size 29 1 v (q + 1) vs ∧ Hid (rows.length = q + 1) ∧ (∀ x ∈ rows, x.length ≤ 1000) ∧ (∀ i (h : i < rows.length), ∃ u, vs[i]? = some u ∧ ws.ownsRow W.heap.size 5 1 u rows[i].length (rows[i].flatMap encB)) ∧ Ext W ws) (fun i _ => 6 - (intOf i).toNat)
          case atStart => exact ⟨0, _, [[0]], _, by omega, rfl, Kr, ho6, Lib.hid rfl, by decide, hel0, hX6⟩
          case round =>
            clear Kr ho6 ho0 hX6
            obtain ⟨q, v, rows, vs, hq6, rfl, K, hown, HL, hrl, hel, hws⟩ := hrel
            by_cases hlt : q < 6
            · have hqI : decide ((q : Int) < 6) = true := by simp; omega
              have hqP : (q : Int) < 6 := by omega
              obtain ⟨A7, c7, hv7, h7c, h7S⟩ := own_nested (lo := W.heap.size) (hi := wr.heap.size) (l := rows) (by rw [HL.out]; exact hown) (Nat.le_refl _) (Nat.le_refl _) (fun i h => by
                obtain ⟨u, hu, hK⟩ := hel i h
                obtain ⟨A3, c3, rfl, b1, _, b2⟩ := own_bytes (lo := W.heap.size) (hi := wr.heap.size) hK (Nat.le_refl _) (Nat.le_refl _)
                exact ⟨_, hu, A3, c3, rfl, b1, b2⟩)
              rw [HL.out] at hv7 h7c h7S
              subst hv7
              have hpu := puts_walk wr ⟨⟨#[97, 110, 110]⟩, 5, 1, 0, 1, ⟨#[108, 111, 103]⟩, ⟨#[98, 111, 98]⟩, 1, 0, 0, rows⟩ A7 c7 (by show rdB.Sl wr A7 rows.length rows; rw [HL.out]; exact h7S.mono only_cle) (by show rows.length ≤ c7; rw [HL.out]; exact h7c) (rin_mk (by show rows.length ≤ 1000; rw [HL.out]; omega) hrl (show laidR.ten.size ≤ 1000 by decide) (show laidR.st.size ≤ 1000 by decide) (show laidR.su.size ≤ 1000 by decide) ⟨laid_ints.clock, laid_ints.kind, laid_ints.code, laid_ints.id, laid_ints.slot, laid_ints.uses, laid_ints.num⟩)
              dsimp only at hpu
              rw [HL.out] at hpu
              have d0 := K.cell 0 (v := .string ⟨#[97, 110, 110]⟩) rfl
              have e0 := K.frozen 0
              have d1 := K.cell 1 (v := .int .i64 5) rfl
              have e1 := K.frozen 1
              have d2 := K.cell 2 (v := .int .i64 1) rfl
              have e2 := K.frozen 2
              have d3 := K.cell 3 (v := .int .i64 0) rfl
              have e3 := K.frozen 3
              have d4 := K.cell 4 (v := .int .i64 1) rfl
              have e4 := K.frozen 4
              have d5 := K.cell 5 (v := .string ⟨#[108, 111, 103]⟩) rfl
              have e5 := K.frozen 5
              have d6 := K.cell 6 (v := .string ⟨#[98, 111, 98]⟩) rfl
              have e6 := K.frozen 6
              have d7 := K.cell 7 (v := .int .i64 1) rfl
              have e7 := K.frozen 7
              have d8 := K.cell 8 (v := .int .i64 0) rfl
              have e8 := K.frozen 8
              have d9 := K.cell 9 (v := .int .i64 0) rfl
              have e9 := K.frozen 9
              have d10 := K.cell 10 (v := .slice A7 (q + 1) c7) rfl
              have e10 := K.frozen 10
              go_upto_region 39 with (go_at_call 3; (with_reducible refine hpu.mono ?_); rintro e w9 ⟨rfl, hE9⟩)
              clear d0 d1 d2 d3 d4 d5 d6 d7 d8 d9 d10 e0 e1 e2 e3 e4 e5 e6 e7 e8 e9 e10 hpu h7S
              have hE9d := hE9.drew
              have K9 := K.ext hE9d
              have ho9 := own_ext hown hE9d
              have hed := fun i (h : i < rows.length) => (hel i h).imp fun u hu => (⟨hu.1, own_ext hu.2 hE9d⟩ : _ ∧ _)
              have hX9 := hws.trans hE9d
              have r2 := fun (w' : World) (h : GQ g6 (.slice A7 (q + 1) c7) w') => (show w'.cell? ⟨g6, 10, none⟩ = some (.slice A7 (q + 1) c7) from h)
              have hr8 : ∀ w : World, Calls Tryd.prog 27 #[.int .i64 (268 + (q : Int))] w fun e w' => ∃ v, e = .returned v ∧ w'.ownsRow w.heap.size 5 1 v (268 + q) ((rowL (268 + q)).flatMap encB) ∧ Ext w w' := fun w => by
                have h := row_any (268 + q) (by omega) w
                rw [show (((268 + q : Nat)) : Int) = 268 + (q : Int) by omega] at h
                exact h
              have hw8 : IntKind.i64.wrap (268 + (q : Int)) = 268 + (q : Int) := by rw [IntKind.wrap_i64]; omega
              refine wp_region_noPanic ?_
              refine tr_start (.y 0 (.y 1 (.y 2 (.y 3 (.e 4 (.e 5 (.e 6 (.y 7 (.e 8 .nil))))))))) (GQ g6 (.slice A7 (q + 1) c7)) (by kernel_rfl) (by kernel_rfl) (fun _ _ _ _ _ h => h) (K9.cell 10 rfl) ?_
              iterate 4 (first | (refine tr_off (a' := ?_) rfl rfl (by rfl) ?_ ?_; rotate_left 1; (· simp only [Act.put, List.setIfInBounds_toArray, List.set_cons_zero, List.set_cons_succ]; rfl)) | (refine tr_y (v := ?_) (a' := ?_) rfl rfl (by rfl) (fun w' hw' => ?_) ?_ ?_; rotate_left 2; (· go_simp; with_reducible rfl); (· simp only [Act.put, List.setIfInBounds_toArray, List.set_cons_zero, List.set_cons_succ]; rfl)))
              generalize w9.drew = wd at K9 ho9 hed hX9 ⊢
              refine tr_call (args := ?_) rfl Tryd.func27 (by kernel_rfl) rfl (by rfl) rfl rfl ?_ ?_
              rotate_left 1
              · go_simp; rfl
              (with_reducible refine (hr8 _).mono ?_)
              rintro e w22 ⟨u1, rfl, hu1, hE10⟩
              refine ⟨_, _, rfl, (K9.ext hE10).cell 10 rfl, (by simp only [Act.put, List.setIfInBounds_toArray, List.set_cons_zero, List.set_cons_succ]; rfl), ?_⟩
              have K22 := K9.ext hE10
              have ho22 := own_ext ho9 hE10
              have hX22 := hX9.trans hE10
              have hu1 := own_base (base' := W.heap.size) hu1 hX9.le
              clear hw8
              obtain ⟨z, hz⟩ : ∃ z, rowL (268 + q) = z := ⟨_, rfl⟩
              obtain ⟨n1, hn1⟩ : ∃ n1, 268 + q = n1 := ⟨_, rfl⟩
              have hzl : z.length = n1 := by rw [← hz, ← hn1, rowL_len]
              have hn10 : n1 ≤ 1000 := by omega
              rw [hz, hn1] at hu1
              obtain ⟨A1, c1, hv1, h1c, -, -⟩ := own_bytes (lo := W.heap.size) (hi := w22.heap.size) (l := z) (by rw [hzl]; exact hu1) (Nat.le_refl _) (Nat.le_refl _)
              rw [hzl] at hv1
              subst hv1
              clear hz hn1
              refine tr_value (v := ?_) (w1 := ?_) (a' := ?_) rfl rfl (by rfl) ?_ ?_ ?_ ?_
              rotate_left 3
              · go_simp; refine ⟨?_, ?_⟩ <;> with_reducible rfl
              · exact (K22.alloc _).cell 10 rfl
              · simp only [Act.put, List.setIfInBounds_toArray, List.set_cons_zero, List.set_cons_succ]; rfl
              refine tr_append (news := [.slice A1 n1 c1]) rfl (by rfl) rfl elt_nested (.tmp 147) (.tmp 151) rfl (ho22.alloc _) rfl rfl ?_ ?_ ?_ ?_ ?_ ?_
              · exact ⟨rfl, (fun h => by cases h), fun ad h j u hu => (by cases h; exact new_cells w22 _ #[.slice A1 n1 c1] j u hu)⟩
              · intro u hu; simp at hu; subst hu; rfl
              · unfold maxLen; omega
              · omega
              · have := hX22.le; simp; omega
              intro v7 w7 hown7 hgrow7
              have hX7 : Ext W w7 := grown_ext2 (hX22.alloc _) (ho22.alloc _) hgrow7 (Nat.le_refl _)
              have K7 := blk_grown (K22.alloc _) (ho22.alloc _) (by decide) hgrow7
              have hkeep : ∀ (u : Value) (m : Nat) (cs : List Value), w22.ownsRow W.heap.size 5 1 u m cs → w7.ownsRow W.heap.size 5 1 u m cs := fun u m cs h =>
                (h.alloc _).kept hgrow7 (own_ne (h.alloc (.cells #[.slice A1 n1 c1] 29)) (ho22.alloc _) (by decide))
              obtain ⟨A8, c8, rfl⟩ := own_val hown7
              refine ⟨_, K7.cell 10 rfl, (by simp only [Act.put, List.setIfInBounds_toArray, List.set_cons_zero, List.set_cons_succ]; rfl), ?_⟩
              iterate 1 (first | (refine tr_off (a' := ?_) rfl rfl (by rfl) ?_ ?_; rotate_left 1; (· simp only [Act.put, List.setIfInBounds_toArray, List.set_cons_zero, List.set_cons_succ]; rfl)) | (refine tr_y (v := ?_) (a' := ?_) rfl rfl (by rfl) (fun w' hw' => ?_) ?_ ?_; rotate_left 2; (· go_simp; with_reducible rfl); (· simp only [Act.put, List.setIfInBounds_toArray, List.set_cons_zero, List.set_cons_succ]; rfl)))
              have cc := K7.cell 10 (v := .slice A7 (q + 1) c7) rfl
              have ff := K7.frozen 10
              have K8 := K7.set_ 10 (.slice A8 (q + 1 + 1) c8)
              simp only [List.setIfInBounds_toArray, List.set_cons_zero, List.set_cons_succ] at K8
              have ho8 := own_far hown7 K7 (by decide) 10 (.slice A8 (q + 1 + 1) c8)
              have hkeep : ∀ (u : Value) (m : Nat) (cs : List Value), w22.ownsRow W.heap.size 5 1 u m cs → (w7.setCell ⟨g6, 10, none⟩ (.slice A8 (q + 1 + 1) c8)).ownsRow W.heap.size 5 1 u m cs := fun u m cs h => own_far (hkeep u m cs h) K7 (by decide) 10 _
              have hX8 : Ext W _ := hX7.set (p := ⟨g6, 10, none⟩) hg6 (.slice A8 (q + 1 + 1) c8)
              refine tr_last (w1 := w7.setCell ⟨g6, 10, none⟩ (.slice A8 (q + 1 + 1) c8)) rfl (by rfl) rfl (by kernel_rfl) (by go_simp; try rfl) ?_
              refine NoPanic.normal ?_
              generalize w7.setCell ⟨g6, 10, none⟩ (.slice A8 (q + 1 + 1) c8) = w8 at K8 ho8 hkeep hX8 ⊢
              have hvl : vs.length = q + 1 := by have := hown.1; omega
              have hel2 : ∀ i (h : i < (rows ++ [z]).length), ∃ u, (vs ++ [.slice A1 n1 c1])[i]? = some u ∧ w8.ownsRow W.heap.size 5 1 u (rows ++ [z])[i].length ((rows ++ [z])[i].flatMap encB) := fun i h => by
                have hl := HL.out
                rw [List.length_append] at h
                by_cases hik : i < rows.length
                · obtain ⟨u, hu, hK⟩ := hed i hik
                  exact ⟨u, by rw [List.getElem?_append_left (by omega)]; exact hu, by rw [List.getElem_append_left hik]; exact hkeep _ _ _ (own_ext hK hE10)⟩
                · have hil : i = q + 1 := by simp at h; omega
                  subst hil
                  refine ⟨_, by rw [List.getElem?_append_right (by omega), hvl, Nat.sub_self]; rfl, ?_⟩
                  rw [List.getElem_append_right (by omega)]
                  simp only [hl, Nat.sub_self, List.getElem_cons_zero]
                  rw [hzl]
                  exact hkeep _ _ _ hu1
              have HL2 : Hid ((rows ++ [z]).length = q + 1 + 1) := Lib.hid (by have := HL.out; simp; omega)
              have hrl2 : ∀ x ∈ rows ++ [z], x.length ≤ 1000 := fun x hx => by
                rcases List.mem_append.1 hx with hx | hx
                · exact hrl x hx
                · obtain rfl : x = z := by simpa using hx
                  rw [hzl]; exact hn10
              clear K hown hel hed HL hrl K9 ho9 K22 ho22 K7 hown7 hgrow7 cc ff hkeep hu1 r2 hr8 hvl hzl hE10 hE9 hE9d hX9 hX22 hX7 hws
              go_wp2_with fail
              go_roundw
              case rel => first | exact ⟨q + 1, _, _, _, by omega, by go_num, K8, ho8, HL2, hrl2, hel2, hX8⟩ | ((repeat apply Exists.intro); exact ⟨⟨q + 1, _, _, _, by omega, by go_num, K8, ho8, HL2, hrl2, hel2, hX8⟩, rfl⟩)
              case measure => simp [intOf]; omega
            · obtain rfl : q = 6 := by omega
              clear K hown hel HL hrl hro
              go_wp2_with (first | (go_at_call 3; (with_reducible refine (puts_lit _ _ _ _ _ (by decide) (by decide) (by decide) (by decide)).mono ?_); rintro e w9 ⟨rfl, hE9⟩; have hws := Ext.trans hws hE9; clear hE9) | (go_at_call 10; (with_reducible refine (hwo _).mono ?_); rintro e w10 ⟨rfl, hE10⟩))
              go_ret
              exact ⟨rfl, hE.trans (hws.trans hE10)⟩
end Go.Proofs.YtkmjnbfhfjafpaaDoor
