/- RightAdded: the walk. -/
import Derived.Test.YtmdjndhebgnjoaaDoorRulesF
import Derived.Test.YtmdjndhebgnjoaaDoorAddedPure
import Derived.Test.YtmdjndhebgnjoaaDoorAppend
import Derived.Test.YtmdjndhebgnjoaaDoorStable
import Derived.Test.YtmdjndhebgnjoaaDoorKit
namespace Go.Proofs.YtmdjndhebgnjoaaDoor
set_option linter.unusedVariables false
set_option linter.unusedSimpArgs false
open Go.RowKit Go.Shelf
theorem elt_rule : Elt Tryd.prog 38 40 2 24 := Elt.mk' Tryd.underlying38 info_rule rfl (by decide)
theorem encRule_one (l : List Rule) : ∀ u ∈ l.flatMap encRule, u.oneCell' = true := by
  intro u hu
  obtain ⟨x, _, hx⟩ := List.mem_flatMap.1 hu
  simp [encRule] at hx
  rcases hx with rfl | rfl <;> rfl
def sameG (l : List Rule) (p : ByteArray) : Bool := l.any fun x => x.p.toList == p.toList
theorem sameG_one {l : List Rule} {k : Nat} (h : k < l.length) (p : ByteArray) : sameG (l.take (k + 1)) p = (sameG (l.take k) p || (l[k].p.toList == p.toList)) := by
  unfold sameG
  rw [List.take_succ_eq_append_getElem h, List.any_append]
  simp
theorem bytes_eq {a b : ByteArray} (h : a.toList = b.toList) : a = b := by
  rw [ByteArray.toList_eq, ByteArray.toList_eq] at h
  cases a; cases b; simp at h; simp [h]
theorem sameG_yes {l : List Rule} {p : ByteArray} (h : sameG l p = true) : ∃ x ∈ l, x.p = p := by
  unfold sameG at h
  rw [List.any_eq_true] at h
  obtain ⟨x, hx, he⟩ := h
  exact ⟨x, hx, bytes_eq (by simpa using he)⟩
theorem sameG_no {l : List Rule} {p : ByteArray} (h : sameG l p = false) : ∀ x ∈ l, x.p ≠ p := by
  intro x hx he
  unfold sameG at h
  rw [List.any_eq_false] at h
  exact h x hx (by rw [he]; simp)
set_option maxHeartbeats 9000000 in
set_option maxRecDepth 100000 in
theorem added_walk (w : World) (A : Option Addr) (c : Nat) (xs : List Rule) (hS : rdRule.Sl w A xs.length xs) (hc : xs.length ≤ c) (hn : xs.length ≤ 9223372036854775807) (rp : ByteArray) (rr : Int) (z q : Int) (s : ByteArray) (hz : -9223372036854775808 ≤ z ∧ z ≤ 9223372036854775807) : Calls Tryd.prog 7 #[.slice A xs.length c, .agg #[.string rp, .int .i64 rr], .int .i64 z, .int .i64 q, .string s] w fun e w' => e = .returned (.bool true) ∧ Ext w w' := by
  obtain ⟨W, hW, hE, b1⟩ := box1 w #[.string rp, .int .i64 rr] 40
  have ac0 := b1 0 _ rfl
  have ac1 := b1 1 _ rfl
  have ak0 := fun (w' : World) (h : Ext W w') => h.cellk ac0
  have ak1 := fun (w' : World) (h : Ext W w') => h.cellk ac1
  have hX0 : Ext W W := Ext.refl W
  obtain ⟨n, hxn⟩ : ∃ n, xs.length = n := ⟨_, rfl⟩
  have hS0 := hS
  rw [hxn] at hS hn hc ⊢
  clear b1
  have hB : Blk W w.heap.size 40 #[.string rp, .int .i64 rr] := by rw [hW]; exact Blk.new _ _ _
  go_enter Tryd.func7, Tryd.ntmps7
  go_upto_region 1 with fail
  rw [← hW]
  clear hW
  by_cases hm : 200 < n
  · go_wp2_with (go_at_call 10; (with_reducible refine (works_any _).mono ?_); rintro e w' ⟨rfl, hb⟩; have hX : Ext W w' := (by (repeat (first | assumption | exact Ext.refl _ | refine Ext.drew ?_ | refine Ext.alloc ?_ _ | refine Ext.drewN ?_ _ | refine Ext.trans ?_ (by assumption)))))
    all_goals go_ret
    all_goals exact ⟨rfl, by (repeat (first | assumption | exact Ext.refl _ | refine Ext.drew ?_ | refine Ext.alloc ?_ _ | refine Ext.drewN ?_ _ | refine Ext.trans ?_ (by assumption)))⟩
  by_cases hm1 : 4096 < rp.size
  · go_wp2_with (go_at_call 10; (with_reducible refine (works_any _).mono ?_); rintro e w' ⟨rfl, hb⟩; have hX : Ext W w' := (by (repeat (first | assumption | exact Ext.refl _ | refine Ext.drew ?_ | refine Ext.alloc ?_ _ | refine Ext.drewN ?_ _ | refine Ext.trans ?_ (by assumption)))))
    all_goals go_ret
    all_goals exact ⟨rfl, by (repeat (first | assumption | exact Ext.refl _ | refine Ext.drew ?_ | refine Ext.alloc ?_ _ | refine Ext.drewN ?_ _ | refine Ext.trans ?_ (by assumption)))⟩
  by_cases hm2 : 4096 < s.size
  · go_wp2_with (go_at_call 10; (with_reducible refine (works_any _).mono ?_); rintro e w' ⟨rfl, hb⟩; have hX : Ext W w' := (by (repeat (first | assumption | exact Ext.refl _ | refine Ext.drew ?_ | refine Ext.alloc ?_ _ | refine Ext.drewN ?_ _ | refine Ext.trans ?_ (by assumption)))))
    all_goals go_ret
    all_goals exact ⟨rfl, by (repeat (first | assumption | exact Ext.refl _ | refine Ext.drew ?_ | refine Ext.alloc ?_ _ | refine Ext.drewN ?_ _ | refine Ext.trans ?_ (by assumption)))⟩
  go_wp2_with fail
  go_loopw [11, 12] (fun s11 i wr => ∃ k : Nat, k ≤ n ∧ i = .int .i64 k ∧ s11 = .bool (sameG (xs.take k) rp) ∧ (∀ x ∈ xs.take k, x.p.size ≤ 4096) ∧ Ext W wr) (fun _ i _ => n - (intOf i).toNat)
  case atStart => exact ⟨0, by omega, rfl, by simp [sameG], by simp, hX0⟩
  case round =>
    obtain ⟨k, hkn, rfl, rfl, hd, hwr⟩ := hrel
    by_cases hlt : k < n
    · have HX := ((hS.ext hE).ext hwr).get k hlt
      have htk : xs.take (k + 1) = xs.take k ++ [xs[k]] := List.take_succ_eq_append_getElem (by omega)
      have hsm := sameG_one (l := xs) (k := k) (by omega) rp
      obtain ⟨b, o, cs, rfl, hk, hcell⟩ := HX
      have hcs := rdRule_cells hk
      generalize hx : xs[k]'(by omega) = x at *
      subst hcs
      have x0 : wr.cell? ⟨b, o + k * 2, none⟩ = some (.string x.p) := hcell 0 _ rfl
      have x1 : wr.cell? ⟨b, o + k * 2 + 1, none⟩ = some (.int .i64 x.r) := hcell 1 _ rfl
      have r0 := fun (w' : World) (h : Ext wr w') => h.cellk x0
      have p0 := fun (w' : World) (h : Ext wr w') => ak0 w' (hwr.trans h)
      have hY0 : Ext wr wr := Ext.refl wr
      clear hcell hx hk hS hS0
      obtain ⟨sb, hsb⟩ : ∃ sb, sameG (xs.take k) rp = sb := ⟨_, rfl⟩
      rw [hsb] at hsm ⊢
      by_cases hp : 4096 < x.p.size
      · go_wp2_with (go_at_call 10; (with_reducible refine (works_any _).mono ?_); rintro e w' ⟨rfl, hb⟩; have hX : Ext W w' := (by (repeat (first | assumption | exact Ext.refl _ | refine Ext.drew ?_ | refine Ext.alloc ?_ _ | refine Ext.drewN ?_ _ | refine Ext.trans ?_ (by assumption)))))
        go_ret
        exact ⟨rfl, hE.trans (by (repeat (first | assumption | exact Ext.refl _ | refine Ext.drew ?_ | refine Ext.alloc ?_ _ | refine Ext.drewN ?_ _ | refine Ext.trans ?_ (by assumption))))⟩
      · go_upto_region 9 with fail
        have hrel : ∀ y ∈ xs.take (k + 1), y.p.size ≤ 4096 := by
          rw [htk]
          intro y hy
          rcases List.mem_append.1 hy with hy | hy
          · exact hd y hy
          · obtain rfl : y = x := by simpa using hy
            omega
        clear x0 x1 hd htk
        cases sb
        · simp only [Bool.false_or] at hsm
          refine wp_region_noPanic ?_
          refine rg_start [(true, 0), (true, 1), (true, 2), (true, 3), (true, 4), (true, 5), (true, 6), (true, 7), (true, 8), (true, 9), (true, 10), (true, 11)] (fun w' => Ext wr w') (by kernel_rfl) (by kernel_rfl) (fun _ _ _ _ _ h => h) (by (repeat (first | assumption | exact Ext.refl _ | refine Ext.drew ?_ | refine Ext.alloc ?_ _ | refine Ext.drewN ?_ _ | refine Ext.trans ?_ (by assumption)))) ?_
          iterate 12
            first
              | (refine rg_off (a' := ?_) rfl rfl (by rfl) ?_ ?_; rotate_left 1; (· simp only [Act.put, List.setIfInBounds_toArray, List.set_cons_zero, List.set_cons_succ]; rfl))
              | (refine rg_y (v := ?_) (a' := ?_) rfl rfl (by rfl) (fun w' hw' => ?_) ?_ ?_; rotate_left 2; (· go_simp; with_reducible rfl); (· simp only [Act.put, List.setIfInBounds_toArray, List.set_cons_zero, List.set_cons_succ]; rfl))
          refine rg_end (NoPanic.normal ?_)
          go_wp2_with fail
          go_roundw
          case rel => exact ⟨k + 1, by omega, by go_num, by rw [hsm], hrel, hwr.trans (by (repeat (first | assumption | exact Ext.refl _ | refine Ext.drew ?_ | refine Ext.alloc ?_ _ | refine Ext.drewN ?_ _ | refine Ext.trans ?_ (by assumption))))⟩
          case measure => simp [intOf]; omega
        · simp only [Bool.true_or] at hsm
          refine wp_region_noPanic ?_
          refine rg_start [(true, 0), (true, 1), (true, 2), (true, 3), (true, 4), (true, 5), (true, 6), (true, 7), (true, 8), (true, 9), (true, 10), (true, 11)] (fun w' => Ext wr w') (by kernel_rfl) (by kernel_rfl) (fun _ _ _ _ _ h => h) (by (repeat (first | assumption | exact Ext.refl _ | refine Ext.drew ?_ | refine Ext.alloc ?_ _ | refine Ext.drewN ?_ _ | refine Ext.trans ?_ (by assumption)))) ?_
          iterate 12
            first
              | (refine rg_off (a' := ?_) rfl rfl (by rfl) ?_ ?_; rotate_left 1; (· simp only [Act.put, List.setIfInBounds_toArray, List.set_cons_zero, List.set_cons_succ]; rfl))
              | (refine rg_y (v := ?_) (a' := ?_) rfl rfl (by rfl) (fun w' hw' => ?_) ?_ ?_; rotate_left 2; (· go_simp; with_reducible rfl); (· simp only [Act.put, List.setIfInBounds_toArray, List.set_cons_zero, List.set_cons_succ]; rfl))
          refine rg_end (NoPanic.normal ?_)
          go_wp2_with fail
          go_roundw
          case rel => exact ⟨k + 1, by omega, by go_num, by rw [hsm], hrel, hwr.trans (by (repeat (first | assumption | exact Ext.refl _ | refine Ext.drew ?_ | refine Ext.alloc ?_ _ | refine Ext.drewN ?_ _ | refine Ext.trans ?_ (by assumption))))⟩
          case measure => simp [intOf]; omega
    · obtain rfl : k = n := by omega
      rw [← hxn, List.take_length] at hd
      have hp : ∀ x ∈ xs, x.p.size ≤ 9223372036854775807 := fun x hx => by have := hd x hx; omega
      have hEW := hE.trans hwr
      have hSr : rdRule.Sl wr A (k) xs := by have h := hS0.ext hEW; rwa [hxn] at h
      obtain ⟨i0, hi, hz0, hz1, hz2⟩ := info_parts info_rule
      go_wp2_with fail
      refine (pick_any z (k + 1) hz (by omega) _).mono ?_
      rintro e w' ⟨j, rfl, hj, -, rfl⟩
      obtain ⟨i, rfl⟩ : ∃ i : Nat, (i : Int) = j := ⟨j.toNat, by omega⟩
      have hik : i ≤ k := by omega
      have hti : (xs.take i).length = i := by rw [List.length_take]; omega
      have hcp := copyRules_any wr A c (xs.take i) (sl_take (xs := xs.take i) (ys := xs.drop i) (m := k) (by rw [List.take_append_drop]; exact hSr)) (by omega) (by omega)
      rw [hti] at hcp
      go_wp2_with fail
      refine hcp.mono ?_
      rintro e w1 ⟨v1, rfl, hown1, hE1⟩
      clear hcp
      have d0 := ak0 w1 (hwr.trans hE1)
      have d1 := ak1 w1 (hwr.trans hE1)
      have hE1' := hwr.trans hE1
      go_wp2_with (at_builtin; refine wpList_append_cells (news := [.string rp, .int .i64 rr]) rfl elt_rule (.tmp 63) (.tmp 65) rfl (hown1.alloc _) rfl rfl ?c0 ?c1 ?c2 ?c3 ?c4 ?_)
      case c0 => exact ⟨rfl, (fun h => by cases h), fun ad h j u hu => (by cases h; exact new_cells w1 _ #[.string rp, .int .i64 rr] j u hu)⟩
      case c1 => intro u hu; simp at hu; rcases hu with rfl | rfl <;> rfl
      case c2 => unfold maxLen; omega
      case c3 => omega
      case c4 => have := hE1.le; simp; omega
      intro v2 w2 hown2 hgrow2
      have hE2 := grown_ext (hE1.alloc _) (hown1.alloc _) hgrow2
      clear hown1 hgrow2
      have hcl := sl_cellsOf (f := encRule) (fun _ _ _ h => rdRule_cells h) (fun _ => rfl) (sl_rest (hSr.ext hE2) c i hik hc)
      change Cells w2 (restA A c i 2) (k - i) 2 _ at hcl
      go_wp2_with (first | (refine wpList_slice_from rfl elt_rule (.tmp 68) (.tmp 69) rfl A k c i rfl rfl hik ?_) | (at_builtin; refine wpList_append_cells rfl elt_rule (.tmp 67) (.tmp 70) rfl hown2 rfl rfl hcl ?d1 ?d2 ?d3 ?d4 ?_))
      case d1 => exact encRule_one _
      case d2 => unfold maxLen; omega
      case d3 => omega
      case d4 => have := hE2.le; omega
      intro v3 w3 hown3 hgrow3
      have hE3 := grown_ext hE2 hown2 hgrow3
      clear hown2 hgrow3 hcl
      have hml : (xs.take i ++ ⟨rp, rr⟩ :: xs.drop i).length = k + 1 := by simp; omega
      obtain ⟨A3, c3, rfl, hc3, hS3⟩ := own_rules (l := xs.take i ++ ⟨rp, rr⟩ :: xs.drop i) (by
        rw [hml, List.flatMap_append, List.flatMap_cons]
        have e : i + 1 + (k - i) = k + 1 := by omega
        rw [e] at hown3
        simpa [encRule] using hown3)
      clear hown3
      have hEW3 := hE.trans (hwr.trans hE3)
      have hS03 := hS0.ext hEW3
      have hp3 : ∀ x ∈ xs.take i ++ ⟨rp, rr⟩ :: xs.drop i, x.p.size ≤ 9223372036854775807 := by
        intro x hx
        rcases List.mem_append.1 hx with hx | hx
        · exact hp x (List.mem_of_mem_take hx)
        · rcases List.mem_cons.1 hx with rfl | hx
          · show rp.size ≤ _; omega
          · exact hp x (List.mem_of_mem_drop hx)
      have hP1 := added_not xs ⟨rp, rr⟩ i q s
      have hP3 := added_new xs ⟨rp, rr⟩ i q s
      obtain ⟨was, hwas⟩ : ∃ b, allowedG xs q s = b := ⟨_, rfl⟩
      obtain ⟨now, hnow⟩ : ∃ b, allowedG (xs.take i ++ ⟨rp, rr⟩ :: xs.drop i) q s = b := ⟨_, rfl⟩
      have hAl := fun (w' : World) (h : Ext w3 w') => allowed_any w' A c xs (hS03.ext h) (by rw [hxn]; exact hc) (by omega) hp q s
      have hAm := fun (w' : World) (h : Ext w3 w') => allowed_any w' A3 c3 _ (hS3.ext h) hc3 (by omega) hp3 q s
      rw [hwas] at hAl
      rw [hnow] at hAm
      rw [hml] at hc3 hS3 hAm ⊢
      rw [hxn] at hAl
      rw [hwas, hnow] at hP1
      rw [hnow] at hP3
      have hY0 : Ext w3 w3 := Ext.refl w3
      have hE4 := hE.trans (hwr.trans hE3)
      have hcopy := fun (w' : World) (h : Ext w3 w') => copyRules_any w' A c xs (hS03.ext h) (by rw [hxn]; exact hc) (by omega)
      have ak0 := fun (w' : World) (h : Ext w3 w') => ak0 w' ((hwr.trans hE3).trans h)
      have ak1 := fun (w' : World) (h : Ext w3 w') => ak1 w' ((hwr.trans hE3).trans h)
      clear hwr hE hE3 hEW hEW3 hE2 hE1 hE1' hS0 hSr hS ac0 ac1 d0 d1 hX0 hB hi hz0 hz1 hz2
      go_wp2_with (go_at_call 24; (with_reducible refine (hAl _ (by assumption)).mono ?_); rintro e w4 ⟨rfl, hY4⟩)
      have hss : ∀ b, sameG xs rp = b → sameG (xs.take k) rp = b := fun b h => by rw [← hxn, List.take_length]; exact h
      clear hd
      by_cases hbg : pre s rp = true
      · have hle := pre_size hbg
        have hle' : decide ((rp.size : Int) ≤ (s.size : Int)) = true := by simpa using hle
        have hX := (pre_extract s rp hle).trans hbg
        clear hP1
        refine st_start (fun _ w' => Ext w3 w') (fun _ => false) (by kernel_rfl) (by kernel_rfl) (by (repeat (first | assumption | exact Ext.refl _ | refine Ext.drew ?_ | refine Ext.alloc ?_ _ | refine Ext.drewN ?_ _ | refine Ext.trans ?_ (by assumption)))) ?_
        iterate 17 (first | (refine st_off (a' := ?_) rfl (by rfl) rfl ?_ ?_; rotate_left 1; (· simp only [Act.put, List.setIfInBounds_toArray, List.set_cons_zero, List.set_cons_succ]; rfl)) | (refine st_y (v := ?_) (a' := ?_) rfl (by rfl) rfl (fun k w' hw' => ?_) ?_ ?_; rotate_left 2; (· go_simp; with_reducible rfl); (· simp only [Act.put, List.setIfInBounds_toArray, List.set_cons_zero, List.set_cons_succ]; rfl)))
        refine st_end ?_
        intro w5 hY5
        cases hsm : sameG xs rp
        · have hsm' := hss _ hsm
          have hno := sameG_no hsm
          go_wp2_with fail
          refine st_start (fun _ w' => Ext w3 w') (fun _ => false) (by kernel_rfl) (by kernel_rfl) (by (repeat (first | assumption | exact Ext.refl _ | refine Ext.drew ?_ | refine Ext.alloc ?_ _ | refine Ext.drewN ?_ _ | refine Ext.trans ?_ (by assumption)))) ?_
          iterate 13 (first | (refine st_off (a' := ?_) rfl (by rfl) rfl ?_ ?_; rotate_left 1; (· simp only [Act.put, List.setIfInBounds_toArray, List.set_cons_zero, List.set_cons_succ]; rfl)) | (refine st_y (v := ?_) (a' := ?_) rfl (by rfl) rfl (fun k w' hw' => ?_) ?_ ?_; rotate_left 2; (· go_simp; with_reducible rfl); (· simp only [Act.put, List.setIfInBounds_toArray, List.set_cons_zero, List.set_cons_succ]; rfl)))
          refine st_end ?_
          intro w6 hY6
          go_wp2_with fail
          clear hsm hss
          by_cases hrs : rp = s
          · have hrs' : (rp.toList == s.toList) = true := by rw [hrs]; simp
            have hq := hP3 hno hrs
            unfold hasR at hq
            have hAm2 := hAm
            rw [hq] at hAm2
            clear hP3 hno hAm hrs hq hX hbg
            refine st_start (fun _ w' => Ext w3 w') (fun _ => false) (by kernel_rfl) (by kernel_rfl) (by (repeat (first | assumption | exact Ext.refl _ | refine Ext.drew ?_ | refine Ext.alloc ?_ _ | refine Ext.drewN ?_ _ | refine Ext.trans ?_ (by assumption)))) ?_
            iterate 12 (first | (refine st_off (a' := ?_) rfl (by rfl) rfl ?_ ?_; rotate_left 1; (· simp only [Act.put, List.setIfInBounds_toArray, List.set_cons_zero, List.set_cons_succ]; rfl)) | (refine st_y (v := ?_) (a' := ?_) rfl (by rfl) rfl (fun k w' hw' => ?_) ?_ ?_; rotate_left 2; (· go_simp; with_reducible rfl); (· simp only [Act.put, List.setIfInBounds_toArray, List.set_cons_zero, List.set_cons_succ]; rfl)))
            refine st_call (args := ?_) (v := .bool (bits .and .i64 rr q == q)) (a' := ?_) Tryd.func24 (by kernel_rfl) rfl (by rfl) rfl rfl rfl ?_ ?_ ?_ ?_
            rotate_left 2
            · simp only [List.map_toArray, List.map_cons, List.map_nil]; rfl
            · exact fun k w' hS => (hAm2 w' hS).mono fun e w'' h => ⟨h.1, Ext.trans hS h.2⟩
            · simp only [Act.put, List.setIfInBounds_toArray, List.set_cons_zero, List.set_cons_succ]; rfl
            iterate 8 (first | (refine st_off (a' := ?_) rfl (by rfl) rfl ?_ ?_; rotate_left 1; (· simp only [Act.put, List.setIfInBounds_toArray, List.set_cons_zero, List.set_cons_succ]; rfl)) | (refine st_y (v := ?_) (a' := ?_) rfl (by rfl) rfl (fun k w' hw' => ?_) ?_ ?_; rotate_left 2; (· go_simp; with_reducible rfl); (· simp only [Act.put, List.setIfInBounds_toArray, List.set_cons_zero, List.set_cons_succ]; rfl)))
            refine st_end ?_
            intro w9 hY10
            go_wp2_with (go_at_call 10; (with_reducible refine (works_any _).mono ?_); rintro e w' ⟨rfl, hZ⟩; have hY9 : Ext w3 w' := (by (repeat (first | assumption | exact Ext.refl _ | refine Ext.drew ?_ | refine Ext.alloc ?_ _ | refine Ext.drewN ?_ _ | refine Ext.trans ?_ (by assumption)))))
            go_ret
            exact ⟨rfl, hE4.trans (by (repeat (first | assumption | exact Ext.refl _ | refine Ext.drew ?_ | refine Ext.alloc ?_ _ | refine Ext.drewN ?_ _ | refine Ext.trans ?_ (by assumption))))⟩
          · have hrs' : (rp.toList == s.toList) = false := by
              rw [beq_eq_false_iff_ne]; intro h; exact hrs (bytes_eq h)
            clear hP3 hno
            refine st_start (fun _ w' => Ext w3 w') (fun _ => false) (by kernel_rfl) (by kernel_rfl) (by (repeat (first | assumption | exact Ext.refl _ | refine Ext.drew ?_ | refine Ext.alloc ?_ _ | refine Ext.drewN ?_ _ | refine Ext.trans ?_ (by assumption)))) ?_
            iterate 21 (first | (refine st_off (a' := ?_) rfl (by rfl) rfl ?_ ?_; rotate_left 1; (· simp only [Act.put, List.setIfInBounds_toArray, List.set_cons_zero, List.set_cons_succ]; rfl)) | (refine st_y (v := ?_) (a' := ?_) rfl (by rfl) rfl (fun k w' hw' => ?_) ?_ ?_; rotate_left 2; (· go_simp; with_reducible rfl); (· simp only [Act.put, List.setIfInBounds_toArray, List.set_cons_zero, List.set_cons_succ]; rfl)))
            refine st_end ?_
            intro w9 hY10
            go_wp2_with (go_at_call 10; (with_reducible refine (works_any _).mono ?_); rintro e w' ⟨rfl, hZ⟩; have hY9 : Ext w3 w' := (by (repeat (first | assumption | exact Ext.refl _ | refine Ext.drew ?_ | refine Ext.alloc ?_ _ | refine Ext.drewN ?_ _ | refine Ext.trans ?_ (by assumption)))))
            go_ret
            exact ⟨rfl, hE4.trans (by (repeat (first | assumption | exact Ext.refl _ | refine Ext.drew ?_ | refine Ext.alloc ?_ _ | refine Ext.drewN ?_ _ | refine Ext.trans ?_ (by assumption))))⟩
        · have hsm' := hss _ hsm
          go_wp2_with fail
          clear hP3 hss hAm hAl
          refine wp_region_noPanic ?_
          refine tr_start (.y 0 (.y 1 (.y 2 (.y 4 (.y 7 (.y 8 (.y 10 (.two 3 5 (.e 5 (.e 6 (.e 9 (.y 11 (.y 12 .nil))))) (.e 3 (.e 6 (.e 9 (.y 11 (.y 12 .nil))))))))))))) (fun w' => Ext w3 w') (by kernel_rfl) (by kernel_rfl) (fun _ _ _ _ _ h => h) (by (repeat (first | assumption | exact Ext.refl _ | refine Ext.drew ?_ | refine Ext.alloc ?_ _ | refine Ext.drewN ?_ _ | refine Ext.trans ?_ (by assumption)))) ?_
          have hYd : Ext w3 w5.drew := by (repeat (first | assumption | exact Ext.refl _ | refine Ext.drew ?_ | refine Ext.alloc ?_ _ | refine Ext.drewN ?_ _ | refine Ext.trans ?_ (by assumption)))
          generalize w5.drew = wd at hYd ⊢
          iterate 7 (first | (refine tr_off (a' := ?_) rfl rfl (by rfl) ?_ ?_; rotate_left 1; (· simp only [Act.put, List.setIfInBounds_toArray, List.set_cons_zero, List.set_cons_succ]; rfl)) | (refine tr_y (v := ?_) (a' := ?_) rfl rfl (by rfl) (fun w' hw' => ?_) ?_ ?_; rotate_left 2; (· go_simp; with_reducible rfl); (· simp only [Act.put, List.setIfInBounds_toArray, List.set_cons_zero, List.set_cons_succ]; rfl)))
          refine tr_two ?_ ?_
          · refine tr_call (args := ?_) rfl Tryd.func23 (by kernel_rfl) rfl (by rfl) rfl rfl ?_ ?_
            rotate_left 1
            · go_simp; rfl
            have hcp := hcopy _ hYd
            rw [hxn] at hcp
            refine hcp.mono ?_
            rintro e w6 ⟨v6, rfl, hown6, hE6⟩
            have hY6b : Ext w3 w6 := hYd.trans hE6
            refine ⟨_, _, rfl, hY6b, (by simp only [Act.put, List.setIfInBounds_toArray, List.set_cons_zero, List.set_cons_succ]; rfl), ?_⟩
            refine tr_value (v := ?_) (w1 := ?_) (a' := ?_) rfl rfl (by rfl) ?_ ?_ ?_ ?_
            rotate_left 3
            · go_simp; refine ⟨?_, ?_⟩ <;> with_reducible rfl
            · exact (hY6b.alloc _)
            · simp only [Act.put, List.setIfInBounds_toArray, List.set_cons_zero, List.set_cons_succ]; rfl
            refine tr_append (news := [.string rp, .int .i64 rr]) rfl (by rfl) rfl elt_rule (.tmp 105) (.tmp 107) rfl (hown6.alloc _) rfl rfl ?_ ?_ ?_ ?_ ?_ ?_
            · exact ⟨rfl, (fun h => by cases h), fun ad h j u hu => (by cases h; exact new_cells w6 _ #[.string rp, .int .i64 rr] j u hu)⟩
            · intro u hu; simp at hu; rcases hu with rfl | rfl <;> rfl
            · unfold maxLen; omega
            · omega
            · have := hE6.le; simp; omega
            intro v7 w7 hown7 hgrow7
            have hY7 := grown_ext2 (hY6b.alloc _) (hown6.alloc _) hgrow7 hYd.le
            clear hgrow7
            have hl7 : (xs ++ [(⟨rp, rr⟩ : Rule)]).length = k + 1 := by simp; omega
            obtain ⟨A7, c7, rfl, hc7, hS7⟩ := own_rules (v := v7) (l := xs ++ [⟨rp, rr⟩]) (by
              rw [hl7, List.flatMap_append]
              simpa [encRule] using hown7)
            refine ⟨_, hY7, (by simp only [Act.put, List.setIfInBounds_toArray, List.set_cons_zero, List.set_cons_succ]; rfl), ?_⟩
            have hA7 := allowed_any w7 A7 c7 (xs ++ [⟨rp, rr⟩]) hS7 hc7 (by omega) (fun x hx => by
              rcases List.mem_append.1 hx with hx | hx
              · exact hp x hx
              · obtain rfl : x = ⟨rp, rr⟩ := by simpa using hx
                show rp.size ≤ _; omega) q s
            rw [added_same xs ⟨rp, rr⟩ q s (sameG_yes hsm), hwas, hl7] at hA7
            clear hown7 hS7 hc7
            refine tr_call (args := ?_) rfl Tryd.func24 (by kernel_rfl) rfl (by rfl) rfl rfl ?_ ?_
            rotate_left 1
            · go_simp; rfl
            (with_reducible refine (hA7).mono ?_)
            rintro e w8 ⟨rfl, hY8⟩
            refine ⟨_, _, rfl, (hY7.trans hY8), (by simp only [Act.put, List.setIfInBounds_toArray, List.set_cons_zero, List.set_cons_succ]; rfl), ?_⟩
            (first | (refine tr_off (a' := ?_) rfl rfl (by rfl) ?_ ?_; rotate_left 1; (· simp only [Act.put, List.setIfInBounds_toArray, List.set_cons_zero, List.set_cons_succ]; rfl)) | (refine tr_y (v := ?_) (a' := ?_) rfl rfl (by rfl) (fun w' hw' => ?_) ?_ ?_; rotate_left 2; (· go_simp; with_reducible rfl); (· simp only [Act.put, List.setIfInBounds_toArray, List.set_cons_zero, List.set_cons_succ]; rfl)))
            (first | (refine tr_off (a' := ?_) rfl rfl (by rfl) ?_ ?_; rotate_left 1; (· simp only [Act.put, List.setIfInBounds_toArray, List.set_cons_zero, List.set_cons_succ]; rfl)) | (refine tr_y (v := ?_) (a' := ?_) rfl rfl (by rfl) (fun w' hw' => ?_) ?_ ?_; rotate_left 2; (· go_simp; with_reducible rfl); (· simp only [Act.put, List.setIfInBounds_toArray, List.set_cons_zero, List.set_cons_succ]; rfl)))
            refine tr_end (NoPanic.normal ?_)
            have hY9 := hY7.trans hY8
            clear hY7 hY8 hl7 hA7 hE6 hY6b hcp
            go_wp2_with fail
            refine st_start (fun _ w' => Ext w3 w') (fun _ => false) (by kernel_rfl) (by kernel_rfl) (by (repeat (first | assumption | exact Ext.refl _ | refine Ext.drew ?_ | refine Ext.alloc ?_ _ | refine Ext.drewN ?_ _ | refine Ext.trans ?_ (by assumption)))) ?_
            iterate 21 (first | (refine st_off (a' := ?_) rfl (by rfl) rfl ?_ ?_; rotate_left 1; (· simp only [Act.put, List.setIfInBounds_toArray, List.set_cons_zero, List.set_cons_succ]; rfl)) | (refine st_y (v := ?_) (a' := ?_) rfl (by rfl) rfl (fun k w' hw' => ?_) ?_ ?_; rotate_left 2; (· go_simp; with_reducible rfl); (· simp only [Act.put, List.setIfInBounds_toArray, List.set_cons_zero, List.set_cons_succ]; rfl)))
            refine st_end ?_
            intro w9 hY10
            go_wp2_with (go_at_call 10; (with_reducible refine (works_any _).mono ?_); rintro e w' ⟨rfl, hZ⟩; have hY9 : Ext w3 w' := (by (repeat (first | assumption | exact Ext.refl _ | refine Ext.drew ?_ | refine Ext.alloc ?_ _ | refine Ext.drewN ?_ _ | refine Ext.trans ?_ (by assumption)))))
            go_ret
            exact ⟨rfl, hE4.trans (by (repeat (first | assumption | exact Ext.refl _ | refine Ext.drew ?_ | refine Ext.alloc ?_ _ | refine Ext.drewN ?_ _ | refine Ext.trans ?_ (by assumption))))⟩
          · refine tr_value (v := ?_) (w1 := ?_) (a' := ?_) rfl rfl (by rfl) ?_ ?_ ?_ ?_
            rotate_left 3
            · go_simp; refine ⟨?_, ?_⟩ <;> with_reducible rfl
            · exact (hYd.alloc _)
            · simp only [Act.put, List.setIfInBounds_toArray, List.set_cons_zero, List.set_cons_succ]; rfl
            refine tr_call (args := ?_) rfl Tryd.func23 (by kernel_rfl) rfl (by rfl) rfl rfl ?_ ?_
            rotate_left 1
            · go_simp; rfl
            have hcp := hcopy _ (hYd.alloc (.cells #[.string rp, .int .i64 rr] 40))
            rw [hxn] at hcp
            refine hcp.mono ?_
            rintro e w6 ⟨v6, rfl, hown6, hE6⟩
            have hY6b : Ext w3 w6 := (hYd.alloc _).trans hE6
            refine ⟨_, _, rfl, hY6b, (by simp only [Act.put, List.setIfInBounds_toArray, List.set_cons_zero, List.set_cons_succ]; rfl), ?_⟩
            refine tr_append (news := [.string rp, .int .i64 rr]) rfl (by rfl) rfl elt_rule (.tmp 105) (.tmp 107) rfl hown6 rfl rfl ?_ ?_ ?_ ?_ ?_ ?_
            · exact ⟨rfl, (fun h => by cases h), fun ad h j u hu => (by cases h; exact hE6.cellk (new_cells wd _ #[.string rp, .int .i64 rr] j u hu))⟩
            · intro u hu; simp at hu; rcases hu with rfl | rfl <;> rfl
            · unfold maxLen; omega
            · omega
            · have := hE6.le; simp at this ⊢; omega
            intro v7 w7 hown7 hgrow7
            have hY7 := grown_ext2 hY6b hown6 hgrow7 (Ext.le (hYd.alloc _))
            clear hgrow7
            have hl7 : (xs ++ [(⟨rp, rr⟩ : Rule)]).length = k + 1 := by simp; omega
            obtain ⟨A7, c7, rfl, hc7, hS7⟩ := own_rules (v := v7) (l := xs ++ [⟨rp, rr⟩]) (by
              rw [hl7, List.flatMap_append]
              simpa [encRule] using hown7)
            refine ⟨_, hY7, (by simp only [Act.put, List.setIfInBounds_toArray, List.set_cons_zero, List.set_cons_succ]; rfl), ?_⟩
            have hA7 := allowed_any w7 A7 c7 (xs ++ [⟨rp, rr⟩]) hS7 hc7 (by omega) (fun x hx => by
              rcases List.mem_append.1 hx with hx | hx
              · exact hp x hx
              · obtain rfl : x = ⟨rp, rr⟩ := by simpa using hx
                show rp.size ≤ _; omega) q s
            rw [added_same xs ⟨rp, rr⟩ q s (sameG_yes hsm), hwas, hl7] at hA7
            clear hown7 hS7 hc7
            refine tr_call (args := ?_) rfl Tryd.func24 (by kernel_rfl) rfl (by rfl) rfl rfl ?_ ?_
            rotate_left 1
            · go_simp; rfl
            (with_reducible refine (hA7).mono ?_)
            rintro e w8 ⟨rfl, hY8⟩
            refine ⟨_, _, rfl, (hY7.trans hY8), (by simp only [Act.put, List.setIfInBounds_toArray, List.set_cons_zero, List.set_cons_succ]; rfl), ?_⟩
            (first | (refine tr_off (a' := ?_) rfl rfl (by rfl) ?_ ?_; rotate_left 1; (· simp only [Act.put, List.setIfInBounds_toArray, List.set_cons_zero, List.set_cons_succ]; rfl)) | (refine tr_y (v := ?_) (a' := ?_) rfl rfl (by rfl) (fun w' hw' => ?_) ?_ ?_; rotate_left 2; (· go_simp; with_reducible rfl); (· simp only [Act.put, List.setIfInBounds_toArray, List.set_cons_zero, List.set_cons_succ]; rfl)))
            (first | (refine tr_off (a' := ?_) rfl rfl (by rfl) ?_ ?_; rotate_left 1; (· simp only [Act.put, List.setIfInBounds_toArray, List.set_cons_zero, List.set_cons_succ]; rfl)) | (refine tr_y (v := ?_) (a' := ?_) rfl rfl (by rfl) (fun w' hw' => ?_) ?_ ?_; rotate_left 2; (· go_simp; with_reducible rfl); (· simp only [Act.put, List.setIfInBounds_toArray, List.set_cons_zero, List.set_cons_succ]; rfl)))
            refine tr_end (NoPanic.normal ?_)
            have hY9 := hY7.trans hY8
            clear hY7 hY8 hl7 hA7 hE6 hY6b hcp
            go_wp2_with fail
            refine st_start (fun _ w' => Ext w3 w') (fun _ => false) (by kernel_rfl) (by kernel_rfl) (by (repeat (first | assumption | exact Ext.refl _ | refine Ext.drew ?_ | refine Ext.alloc ?_ _ | refine Ext.drewN ?_ _ | refine Ext.trans ?_ (by assumption)))) ?_
            iterate 21 (first | (refine st_off (a' := ?_) rfl (by rfl) rfl ?_ ?_; rotate_left 1; (· simp only [Act.put, List.setIfInBounds_toArray, List.set_cons_zero, List.set_cons_succ]; rfl)) | (refine st_y (v := ?_) (a' := ?_) rfl (by rfl) rfl (fun k w' hw' => ?_) ?_ ?_; rotate_left 2; (· go_simp; with_reducible rfl); (· simp only [Act.put, List.setIfInBounds_toArray, List.set_cons_zero, List.set_cons_succ]; rfl)))
            refine st_end ?_
            intro w9 hY10
            go_wp2_with (go_at_call 10; (with_reducible refine (works_any _).mono ?_); rintro e w' ⟨rfl, hZ⟩; have hY9 : Ext w3 w' := (by (repeat (first | assumption | exact Ext.refl _ | refine Ext.drew ?_ | refine Ext.alloc ?_ _ | refine Ext.drewN ?_ _ | refine Ext.trans ?_ (by assumption)))))
            go_ret
            exact ⟨rfl, hE4.trans (by (repeat (first | assumption | exact Ext.refl _ | refine Ext.drew ?_ | refine Ext.alloc ?_ _ | refine Ext.drewN ?_ _ | refine Ext.trans ?_ (by assumption))))⟩
      · have hbg : pre s rp = false := by simpa using hbg
        obtain rfl := hP1 hbg
        by_cases hle : rp.size ≤ s.size
        · have hle' : decide ((rp.size : Int) ≤ (s.size : Int)) = true := by simpa using hle
          have hX := (pre_extract s rp hle).trans hbg
          refine st_start (fun _ w' => Ext w3 w') (fun _ => false) (by kernel_rfl) (by kernel_rfl) (by (repeat (first | assumption | exact Ext.refl _ | refine Ext.drew ?_ | refine Ext.alloc ?_ _ | refine Ext.drewN ?_ _ | refine Ext.trans ?_ (by assumption)))) ?_
          iterate 17 (first | (refine st_off (a' := ?_) rfl (by rfl) rfl ?_ ?_; rotate_left 1; (· simp only [Act.put, List.setIfInBounds_toArray, List.set_cons_zero, List.set_cons_succ]; rfl)) | (refine st_y (v := ?_) (a' := ?_) rfl (by rfl) rfl (fun k w' hw' => ?_) ?_ ?_; rotate_left 2; (· go_simp; with_reducible rfl); (· simp only [Act.put, List.setIfInBounds_toArray, List.set_cons_zero, List.set_cons_succ]; rfl)))
          refine st_end ?_
          intro w5 hY5
          cases hsm : sameG xs rp
          · have hsm' := hss _ hsm
            have hno := sameG_no hsm
            go_wp2_with (go_at_call 24; (with_reducible refine (hAm _ (by assumption)).mono ?_); rintro e w6a ⟨rfl, hY6a⟩)
            refine st_start (fun _ w' => Ext w3 w') (fun _ => false) (by kernel_rfl) (by kernel_rfl) (by (repeat (first | assumption | exact Ext.refl _ | refine Ext.drew ?_ | refine Ext.alloc ?_ _ | refine Ext.drewN ?_ _ | refine Ext.trans ?_ (by assumption)))) ?_
            iterate 13 (first | (refine st_off (a' := ?_) rfl (by rfl) rfl ?_ ?_; rotate_left 1; (· simp only [Act.put, List.setIfInBounds_toArray, List.set_cons_zero, List.set_cons_succ]; rfl)) | (refine st_y (v := ?_) (a' := ?_) rfl (by rfl) rfl (fun k w' hw' => ?_) ?_ ?_; rotate_left 2; (· go_simp; with_reducible rfl); (· simp only [Act.put, List.setIfInBounds_toArray, List.set_cons_zero, List.set_cons_succ]; rfl)))
            refine st_end ?_
            intro w6 hY6
            go_wp2_with fail
            clear hsm hss
            by_cases hrs : rp = s
            · have hrs' : (rp.toList == s.toList) = true := by rw [hrs]; simp
              have hq := hP3 hno hrs
              unfold hasR at hq
              have hAm2 := hAm
              rw [hq] at hAm2
              clear hP3 hno hAm hrs hq hX hbg
              refine st_start (fun _ w' => Ext w3 w') (fun _ => false) (by kernel_rfl) (by kernel_rfl) (by (repeat (first | assumption | exact Ext.refl _ | refine Ext.drew ?_ | refine Ext.alloc ?_ _ | refine Ext.drewN ?_ _ | refine Ext.trans ?_ (by assumption)))) ?_
              iterate 12 (first | (refine st_off (a' := ?_) rfl (by rfl) rfl ?_ ?_; rotate_left 1; (· simp only [Act.put, List.setIfInBounds_toArray, List.set_cons_zero, List.set_cons_succ]; rfl)) | (refine st_y (v := ?_) (a' := ?_) rfl (by rfl) rfl (fun k w' hw' => ?_) ?_ ?_; rotate_left 2; (· go_simp; with_reducible rfl); (· simp only [Act.put, List.setIfInBounds_toArray, List.set_cons_zero, List.set_cons_succ]; rfl)))
              refine st_call (args := ?_) (v := .bool (bits .and .i64 rr q == q)) (a' := ?_) Tryd.func24 (by kernel_rfl) rfl (by rfl) rfl rfl rfl ?_ ?_ ?_ ?_
              rotate_left 2
              · simp only [List.map_toArray, List.map_cons, List.map_nil]; rfl
              · exact fun k w' hS => (hAm2 w' hS).mono fun e w'' h => ⟨h.1, Ext.trans hS h.2⟩
              · simp only [Act.put, List.setIfInBounds_toArray, List.set_cons_zero, List.set_cons_succ]; rfl
              iterate 8 (first | (refine st_off (a' := ?_) rfl (by rfl) rfl ?_ ?_; rotate_left 1; (· simp only [Act.put, List.setIfInBounds_toArray, List.set_cons_zero, List.set_cons_succ]; rfl)) | (refine st_y (v := ?_) (a' := ?_) rfl (by rfl) rfl (fun k w' hw' => ?_) ?_ ?_; rotate_left 2; (· go_simp; with_reducible rfl); (· simp only [Act.put, List.setIfInBounds_toArray, List.set_cons_zero, List.set_cons_succ]; rfl)))
              refine st_end ?_
              intro w9 hY10
              go_wp2_with (go_at_call 10; (with_reducible refine (works_any _).mono ?_); rintro e w' ⟨rfl, hZ⟩; have hY9 : Ext w3 w' := (by (repeat (first | assumption | exact Ext.refl _ | refine Ext.drew ?_ | refine Ext.alloc ?_ _ | refine Ext.drewN ?_ _ | refine Ext.trans ?_ (by assumption)))))
              go_ret
              exact ⟨rfl, hE4.trans (by (repeat (first | assumption | exact Ext.refl _ | refine Ext.drew ?_ | refine Ext.alloc ?_ _ | refine Ext.drewN ?_ _ | refine Ext.trans ?_ (by assumption))))⟩
            · have hrs' : (rp.toList == s.toList) = false := by
                rw [beq_eq_false_iff_ne]; intro h; exact hrs (bytes_eq h)
              clear hP3 hno
              refine st_start (fun _ w' => Ext w3 w') (fun _ => false) (by kernel_rfl) (by kernel_rfl) (by (repeat (first | assumption | exact Ext.refl _ | refine Ext.drew ?_ | refine Ext.alloc ?_ _ | refine Ext.drewN ?_ _ | refine Ext.trans ?_ (by assumption)))) ?_
              iterate 21 (first | (refine st_off (a' := ?_) rfl (by rfl) rfl ?_ ?_; rotate_left 1; (· simp only [Act.put, List.setIfInBounds_toArray, List.set_cons_zero, List.set_cons_succ]; rfl)) | (refine st_y (v := ?_) (a' := ?_) rfl (by rfl) rfl (fun k w' hw' => ?_) ?_ ?_; rotate_left 2; (· go_simp; with_reducible rfl); (· simp only [Act.put, List.setIfInBounds_toArray, List.set_cons_zero, List.set_cons_succ]; rfl)))
              refine st_end ?_
              intro w9 hY10
              go_wp2_with (go_at_call 10; (with_reducible refine (works_any _).mono ?_); rintro e w' ⟨rfl, hZ⟩; have hY9 : Ext w3 w' := (by (repeat (first | assumption | exact Ext.refl _ | refine Ext.drew ?_ | refine Ext.alloc ?_ _ | refine Ext.drewN ?_ _ | refine Ext.trans ?_ (by assumption)))))
              go_ret
              exact ⟨rfl, hE4.trans (by (repeat (first | assumption | exact Ext.refl _ | refine Ext.drew ?_ | refine Ext.alloc ?_ _ | refine Ext.drewN ?_ _ | refine Ext.trans ?_ (by assumption))))⟩
          · have hsm' := hss _ hsm
            go_wp2_with (go_at_call 24; (with_reducible refine (hAm _ (by assumption)).mono ?_); rintro e w6a ⟨rfl, hY6a⟩)
            clear hP3 hss hAm hAl
            refine wp_region_noPanic ?_
            refine tr_start (.y 0 (.y 1 (.y 2 (.y 4 (.y 7 (.y 8 (.y 10 (.two 3 5 (.e 5 (.e 6 (.e 9 (.y 11 (.y 12 .nil))))) (.e 3 (.e 6 (.e 9 (.y 11 (.y 12 .nil))))))))))))) (fun w' => Ext w3 w') (by kernel_rfl) (by kernel_rfl) (fun _ _ _ _ _ h => h) (by (repeat (first | assumption | exact Ext.refl _ | refine Ext.drew ?_ | refine Ext.alloc ?_ _ | refine Ext.drewN ?_ _ | refine Ext.trans ?_ (by assumption)))) ?_
            have hYd : Ext w3 w6a.drew := by (repeat (first | assumption | exact Ext.refl _ | refine Ext.drew ?_ | refine Ext.alloc ?_ _ | refine Ext.drewN ?_ _ | refine Ext.trans ?_ (by assumption)))
            generalize w6a.drew = wd at hYd ⊢
            iterate 7 (first | (refine tr_off (a' := ?_) rfl rfl (by rfl) ?_ ?_; rotate_left 1; (· simp only [Act.put, List.setIfInBounds_toArray, List.set_cons_zero, List.set_cons_succ]; rfl)) | (refine tr_y (v := ?_) (a' := ?_) rfl rfl (by rfl) (fun w' hw' => ?_) ?_ ?_; rotate_left 2; (· go_simp; with_reducible rfl); (· simp only [Act.put, List.setIfInBounds_toArray, List.set_cons_zero, List.set_cons_succ]; rfl)))
            refine tr_two ?_ ?_
            · refine tr_call (args := ?_) rfl Tryd.func23 (by kernel_rfl) rfl (by rfl) rfl rfl ?_ ?_
              rotate_left 1
              · go_simp; rfl
              have hcp := hcopy _ hYd
              rw [hxn] at hcp
              refine hcp.mono ?_
              rintro e w6 ⟨v6, rfl, hown6, hE6⟩
              have hY6b : Ext w3 w6 := hYd.trans hE6
              refine ⟨_, _, rfl, hY6b, (by simp only [Act.put, List.setIfInBounds_toArray, List.set_cons_zero, List.set_cons_succ]; rfl), ?_⟩
              refine tr_value (v := ?_) (w1 := ?_) (a' := ?_) rfl rfl (by rfl) ?_ ?_ ?_ ?_
              rotate_left 3
              · go_simp; refine ⟨?_, ?_⟩ <;> with_reducible rfl
              · exact (hY6b.alloc _)
              · simp only [Act.put, List.setIfInBounds_toArray, List.set_cons_zero, List.set_cons_succ]; rfl
              refine tr_append (news := [.string rp, .int .i64 rr]) rfl (by rfl) rfl elt_rule (.tmp 105) (.tmp 107) rfl (hown6.alloc _) rfl rfl ?_ ?_ ?_ ?_ ?_ ?_
              · exact ⟨rfl, (fun h => by cases h), fun ad h j u hu => (by cases h; exact new_cells w6 _ #[.string rp, .int .i64 rr] j u hu)⟩
              · intro u hu; simp at hu; rcases hu with rfl | rfl <;> rfl
              · unfold maxLen; omega
              · omega
              · have := hE6.le; simp; omega
              intro v7 w7 hown7 hgrow7
              have hY7 := grown_ext2 (hY6b.alloc _) (hown6.alloc _) hgrow7 hYd.le
              clear hgrow7
              have hl7 : (xs ++ [(⟨rp, rr⟩ : Rule)]).length = k + 1 := by simp; omega
              obtain ⟨A7, c7, rfl, hc7, hS7⟩ := own_rules (v := v7) (l := xs ++ [⟨rp, rr⟩]) (by
                rw [hl7, List.flatMap_append]
                simpa [encRule] using hown7)
              refine ⟨_, hY7, (by simp only [Act.put, List.setIfInBounds_toArray, List.set_cons_zero, List.set_cons_succ]; rfl), ?_⟩
              have hA7 := allowed_any w7 A7 c7 (xs ++ [⟨rp, rr⟩]) hS7 hc7 (by omega) (fun x hx => by
                rcases List.mem_append.1 hx with hx | hx
                · exact hp x hx
                · obtain rfl : x = ⟨rp, rr⟩ := by simpa using hx
                  show rp.size ≤ _; omega) q s
              rw [added_same xs ⟨rp, rr⟩ q s (sameG_yes hsm), hwas, hl7] at hA7
              clear hown7 hS7 hc7
              refine tr_call (args := ?_) rfl Tryd.func24 (by kernel_rfl) rfl (by rfl) rfl rfl ?_ ?_
              rotate_left 1
              · go_simp; rfl
              (with_reducible refine (hA7).mono ?_)
              rintro e w8 ⟨rfl, hY8⟩
              refine ⟨_, _, rfl, (hY7.trans hY8), (by simp only [Act.put, List.setIfInBounds_toArray, List.set_cons_zero, List.set_cons_succ]; rfl), ?_⟩
              (first | (refine tr_off (a' := ?_) rfl rfl (by rfl) ?_ ?_; rotate_left 1; (· simp only [Act.put, List.setIfInBounds_toArray, List.set_cons_zero, List.set_cons_succ]; rfl)) | (refine tr_y (v := ?_) (a' := ?_) rfl rfl (by rfl) (fun w' hw' => ?_) ?_ ?_; rotate_left 2; (· go_simp; with_reducible rfl); (· simp only [Act.put, List.setIfInBounds_toArray, List.set_cons_zero, List.set_cons_succ]; rfl)))
              (first | (refine tr_off (a' := ?_) rfl rfl (by rfl) ?_ ?_; rotate_left 1; (· simp only [Act.put, List.setIfInBounds_toArray, List.set_cons_zero, List.set_cons_succ]; rfl)) | (refine tr_y (v := ?_) (a' := ?_) rfl rfl (by rfl) (fun w' hw' => ?_) ?_ ?_; rotate_left 2; (· go_simp; with_reducible rfl); (· simp only [Act.put, List.setIfInBounds_toArray, List.set_cons_zero, List.set_cons_succ]; rfl)))
              refine tr_end (NoPanic.normal ?_)
              have hY9 := hY7.trans hY8
              clear hY7 hY8 hl7 hA7 hE6 hY6b hcp
              go_wp2_with fail
              refine st_start (fun _ w' => Ext w3 w') (fun _ => false) (by kernel_rfl) (by kernel_rfl) (by (repeat (first | assumption | exact Ext.refl _ | refine Ext.drew ?_ | refine Ext.alloc ?_ _ | refine Ext.drewN ?_ _ | refine Ext.trans ?_ (by assumption)))) ?_
              iterate 21 (first | (refine st_off (a' := ?_) rfl (by rfl) rfl ?_ ?_; rotate_left 1; (· simp only [Act.put, List.setIfInBounds_toArray, List.set_cons_zero, List.set_cons_succ]; rfl)) | (refine st_y (v := ?_) (a' := ?_) rfl (by rfl) rfl (fun k w' hw' => ?_) ?_ ?_; rotate_left 2; (· go_simp; with_reducible rfl); (· simp only [Act.put, List.setIfInBounds_toArray, List.set_cons_zero, List.set_cons_succ]; rfl)))
              refine st_end ?_
              intro w9 hY10
              go_wp2_with (go_at_call 10; (with_reducible refine (works_any _).mono ?_); rintro e w' ⟨rfl, hZ⟩; have hY9 : Ext w3 w' := (by (repeat (first | assumption | exact Ext.refl _ | refine Ext.drew ?_ | refine Ext.alloc ?_ _ | refine Ext.drewN ?_ _ | refine Ext.trans ?_ (by assumption)))))
              go_ret
              exact ⟨rfl, hE4.trans (by (repeat (first | assumption | exact Ext.refl _ | refine Ext.drew ?_ | refine Ext.alloc ?_ _ | refine Ext.drewN ?_ _ | refine Ext.trans ?_ (by assumption))))⟩
            · refine tr_value (v := ?_) (w1 := ?_) (a' := ?_) rfl rfl (by rfl) ?_ ?_ ?_ ?_
              rotate_left 3
              · go_simp; refine ⟨?_, ?_⟩ <;> with_reducible rfl
              · exact (hYd.alloc _)
              · simp only [Act.put, List.setIfInBounds_toArray, List.set_cons_zero, List.set_cons_succ]; rfl
              refine tr_call (args := ?_) rfl Tryd.func23 (by kernel_rfl) rfl (by rfl) rfl rfl ?_ ?_
              rotate_left 1
              · go_simp; rfl
              have hcp := hcopy _ (hYd.alloc (.cells #[.string rp, .int .i64 rr] 40))
              rw [hxn] at hcp
              refine hcp.mono ?_
              rintro e w6 ⟨v6, rfl, hown6, hE6⟩
              have hY6b : Ext w3 w6 := (hYd.alloc _).trans hE6
              refine ⟨_, _, rfl, hY6b, (by simp only [Act.put, List.setIfInBounds_toArray, List.set_cons_zero, List.set_cons_succ]; rfl), ?_⟩
              refine tr_append (news := [.string rp, .int .i64 rr]) rfl (by rfl) rfl elt_rule (.tmp 105) (.tmp 107) rfl hown6 rfl rfl ?_ ?_ ?_ ?_ ?_ ?_
              · exact ⟨rfl, (fun h => by cases h), fun ad h j u hu => (by cases h; exact hE6.cellk (new_cells wd _ #[.string rp, .int .i64 rr] j u hu))⟩
              · intro u hu; simp at hu; rcases hu with rfl | rfl <;> rfl
              · unfold maxLen; omega
              · omega
              · have := hE6.le; simp at this ⊢; omega
              intro v7 w7 hown7 hgrow7
              have hY7 := grown_ext2 hY6b hown6 hgrow7 (Ext.le (hYd.alloc _))
              clear hgrow7
              have hl7 : (xs ++ [(⟨rp, rr⟩ : Rule)]).length = k + 1 := by simp; omega
              obtain ⟨A7, c7, rfl, hc7, hS7⟩ := own_rules (v := v7) (l := xs ++ [⟨rp, rr⟩]) (by
                rw [hl7, List.flatMap_append]
                simpa [encRule] using hown7)
              refine ⟨_, hY7, (by simp only [Act.put, List.setIfInBounds_toArray, List.set_cons_zero, List.set_cons_succ]; rfl), ?_⟩
              have hA7 := allowed_any w7 A7 c7 (xs ++ [⟨rp, rr⟩]) hS7 hc7 (by omega) (fun x hx => by
                rcases List.mem_append.1 hx with hx | hx
                · exact hp x hx
                · obtain rfl : x = ⟨rp, rr⟩ := by simpa using hx
                  show rp.size ≤ _; omega) q s
              rw [added_same xs ⟨rp, rr⟩ q s (sameG_yes hsm), hwas, hl7] at hA7
              clear hown7 hS7 hc7
              refine tr_call (args := ?_) rfl Tryd.func24 (by kernel_rfl) rfl (by rfl) rfl rfl ?_ ?_
              rotate_left 1
              · go_simp; rfl
              (with_reducible refine (hA7).mono ?_)
              rintro e w8 ⟨rfl, hY8⟩
              refine ⟨_, _, rfl, (hY7.trans hY8), (by simp only [Act.put, List.setIfInBounds_toArray, List.set_cons_zero, List.set_cons_succ]; rfl), ?_⟩
              (first | (refine tr_off (a' := ?_) rfl rfl (by rfl) ?_ ?_; rotate_left 1; (· simp only [Act.put, List.setIfInBounds_toArray, List.set_cons_zero, List.set_cons_succ]; rfl)) | (refine tr_y (v := ?_) (a' := ?_) rfl rfl (by rfl) (fun w' hw' => ?_) ?_ ?_; rotate_left 2; (· go_simp; with_reducible rfl); (· simp only [Act.put, List.setIfInBounds_toArray, List.set_cons_zero, List.set_cons_succ]; rfl)))
              (first | (refine tr_off (a' := ?_) rfl rfl (by rfl) ?_ ?_; rotate_left 1; (· simp only [Act.put, List.setIfInBounds_toArray, List.set_cons_zero, List.set_cons_succ]; rfl)) | (refine tr_y (v := ?_) (a' := ?_) rfl rfl (by rfl) (fun w' hw' => ?_) ?_ ?_; rotate_left 2; (· go_simp; with_reducible rfl); (· simp only [Act.put, List.setIfInBounds_toArray, List.set_cons_zero, List.set_cons_succ]; rfl)))
              refine tr_end (NoPanic.normal ?_)
              have hY9 := hY7.trans hY8
              clear hY7 hY8 hl7 hA7 hE6 hY6b hcp
              go_wp2_with fail
              refine st_start (fun _ w' => Ext w3 w') (fun _ => false) (by kernel_rfl) (by kernel_rfl) (by (repeat (first | assumption | exact Ext.refl _ | refine Ext.drew ?_ | refine Ext.alloc ?_ _ | refine Ext.drewN ?_ _ | refine Ext.trans ?_ (by assumption)))) ?_
              iterate 21 (first | (refine st_off (a' := ?_) rfl (by rfl) rfl ?_ ?_; rotate_left 1; (· simp only [Act.put, List.setIfInBounds_toArray, List.set_cons_zero, List.set_cons_succ]; rfl)) | (refine st_y (v := ?_) (a' := ?_) rfl (by rfl) rfl (fun k w' hw' => ?_) ?_ ?_; rotate_left 2; (· go_simp; with_reducible rfl); (· simp only [Act.put, List.setIfInBounds_toArray, List.set_cons_zero, List.set_cons_succ]; rfl)))
              refine st_end ?_
              intro w9 hY10
              go_wp2_with (go_at_call 10; (with_reducible refine (works_any _).mono ?_); rintro e w' ⟨rfl, hZ⟩; have hY9 : Ext w3 w' := (by (repeat (first | assumption | exact Ext.refl _ | refine Ext.drew ?_ | refine Ext.alloc ?_ _ | refine Ext.drewN ?_ _ | refine Ext.trans ?_ (by assumption)))))
              go_ret
              exact ⟨rfl, hE4.trans (by (repeat (first | assumption | exact Ext.refl _ | refine Ext.drew ?_ | refine Ext.alloc ?_ _ | refine Ext.drewN ?_ _ | refine Ext.trans ?_ (by assumption))))⟩
        · have hle' : decide ((rp.size : Int) ≤ (s.size : Int)) = false := by simpa using hle
          have hX := hle
          refine st_start (fun _ w' => Ext w3 w') (fun _ => false) (by kernel_rfl) (by kernel_rfl) (by (repeat (first | assumption | exact Ext.refl _ | refine Ext.drew ?_ | refine Ext.alloc ?_ _ | refine Ext.drewN ?_ _ | refine Ext.trans ?_ (by assumption)))) ?_
          iterate 17 (first | (refine st_off (a' := ?_) rfl (by rfl) rfl ?_ ?_; rotate_left 1; (· simp only [Act.put, List.setIfInBounds_toArray, List.set_cons_zero, List.set_cons_succ]; rfl)) | (refine st_y (v := ?_) (a' := ?_) rfl (by rfl) rfl (fun k w' hw' => ?_) ?_ ?_; rotate_left 2; (· go_simp; with_reducible rfl); (· simp only [Act.put, List.setIfInBounds_toArray, List.set_cons_zero, List.set_cons_succ]; rfl)))
          refine st_end ?_
          intro w5 hY5
          cases hsm : sameG xs rp
          · have hsm' := hss _ hsm
            have hno := sameG_no hsm
            go_wp2_with (go_at_call 24; (with_reducible refine (hAm _ (by assumption)).mono ?_); rintro e w6a ⟨rfl, hY6a⟩)
            refine st_start (fun _ w' => Ext w3 w') (fun _ => false) (by kernel_rfl) (by kernel_rfl) (by (repeat (first | assumption | exact Ext.refl _ | refine Ext.drew ?_ | refine Ext.alloc ?_ _ | refine Ext.drewN ?_ _ | refine Ext.trans ?_ (by assumption)))) ?_
            iterate 13 (first | (refine st_off (a' := ?_) rfl (by rfl) rfl ?_ ?_; rotate_left 1; (· simp only [Act.put, List.setIfInBounds_toArray, List.set_cons_zero, List.set_cons_succ]; rfl)) | (refine st_y (v := ?_) (a' := ?_) rfl (by rfl) rfl (fun k w' hw' => ?_) ?_ ?_; rotate_left 2; (· go_simp; with_reducible rfl); (· simp only [Act.put, List.setIfInBounds_toArray, List.set_cons_zero, List.set_cons_succ]; rfl)))
            refine st_end ?_
            intro w6 hY6
            go_wp2_with fail
            clear hsm hss
            by_cases hrs : rp = s
            · have hrs' : (rp.toList == s.toList) = true := by rw [hrs]; simp
              have hq := hP3 hno hrs
              unfold hasR at hq
              have hAm2 := hAm
              rw [hq] at hAm2
              clear hP3 hno hAm hrs hq hX hbg
              refine st_start (fun _ w' => Ext w3 w') (fun _ => false) (by kernel_rfl) (by kernel_rfl) (by (repeat (first | assumption | exact Ext.refl _ | refine Ext.drew ?_ | refine Ext.alloc ?_ _ | refine Ext.drewN ?_ _ | refine Ext.trans ?_ (by assumption)))) ?_
              iterate 12 (first | (refine st_off (a' := ?_) rfl (by rfl) rfl ?_ ?_; rotate_left 1; (· simp only [Act.put, List.setIfInBounds_toArray, List.set_cons_zero, List.set_cons_succ]; rfl)) | (refine st_y (v := ?_) (a' := ?_) rfl (by rfl) rfl (fun k w' hw' => ?_) ?_ ?_; rotate_left 2; (· go_simp; with_reducible rfl); (· simp only [Act.put, List.setIfInBounds_toArray, List.set_cons_zero, List.set_cons_succ]; rfl)))
              refine st_call (args := ?_) (v := .bool (bits .and .i64 rr q == q)) (a' := ?_) Tryd.func24 (by kernel_rfl) rfl (by rfl) rfl rfl rfl ?_ ?_ ?_ ?_
              rotate_left 2
              · simp only [List.map_toArray, List.map_cons, List.map_nil]; rfl
              · exact fun k w' hS => (hAm2 w' hS).mono fun e w'' h => ⟨h.1, Ext.trans hS h.2⟩
              · simp only [Act.put, List.setIfInBounds_toArray, List.set_cons_zero, List.set_cons_succ]; rfl
              iterate 8 (first | (refine st_off (a' := ?_) rfl (by rfl) rfl ?_ ?_; rotate_left 1; (· simp only [Act.put, List.setIfInBounds_toArray, List.set_cons_zero, List.set_cons_succ]; rfl)) | (refine st_y (v := ?_) (a' := ?_) rfl (by rfl) rfl (fun k w' hw' => ?_) ?_ ?_; rotate_left 2; (· go_simp; with_reducible rfl); (· simp only [Act.put, List.setIfInBounds_toArray, List.set_cons_zero, List.set_cons_succ]; rfl)))
              refine st_end ?_
              intro w9 hY10
              go_wp2_with (go_at_call 10; (with_reducible refine (works_any _).mono ?_); rintro e w' ⟨rfl, hZ⟩; have hY9 : Ext w3 w' := (by (repeat (first | assumption | exact Ext.refl _ | refine Ext.drew ?_ | refine Ext.alloc ?_ _ | refine Ext.drewN ?_ _ | refine Ext.trans ?_ (by assumption)))))
              go_ret
              exact ⟨rfl, hE4.trans (by (repeat (first | assumption | exact Ext.refl _ | refine Ext.drew ?_ | refine Ext.alloc ?_ _ | refine Ext.drewN ?_ _ | refine Ext.trans ?_ (by assumption))))⟩
            · have hrs' : (rp.toList == s.toList) = false := by
                rw [beq_eq_false_iff_ne]; intro h; exact hrs (bytes_eq h)
              clear hP3 hno
              refine st_start (fun _ w' => Ext w3 w') (fun _ => false) (by kernel_rfl) (by kernel_rfl) (by (repeat (first | assumption | exact Ext.refl _ | refine Ext.drew ?_ | refine Ext.alloc ?_ _ | refine Ext.drewN ?_ _ | refine Ext.trans ?_ (by assumption)))) ?_
              iterate 21 (first | (refine st_off (a' := ?_) rfl (by rfl) rfl ?_ ?_; rotate_left 1; (· simp only [Act.put, List.setIfInBounds_toArray, List.set_cons_zero, List.set_cons_succ]; rfl)) | (refine st_y (v := ?_) (a' := ?_) rfl (by rfl) rfl (fun k w' hw' => ?_) ?_ ?_; rotate_left 2; (· go_simp; with_reducible rfl); (· simp only [Act.put, List.setIfInBounds_toArray, List.set_cons_zero, List.set_cons_succ]; rfl)))
              refine st_end ?_
              intro w9 hY10
              go_wp2_with (go_at_call 10; (with_reducible refine (works_any _).mono ?_); rintro e w' ⟨rfl, hZ⟩; have hY9 : Ext w3 w' := (by (repeat (first | assumption | exact Ext.refl _ | refine Ext.drew ?_ | refine Ext.alloc ?_ _ | refine Ext.drewN ?_ _ | refine Ext.trans ?_ (by assumption)))))
              go_ret
              exact ⟨rfl, hE4.trans (by (repeat (first | assumption | exact Ext.refl _ | refine Ext.drew ?_ | refine Ext.alloc ?_ _ | refine Ext.drewN ?_ _ | refine Ext.trans ?_ (by assumption))))⟩
          · have hsm' := hss _ hsm
            go_wp2_with (go_at_call 24; (with_reducible refine (hAm _ (by assumption)).mono ?_); rintro e w6a ⟨rfl, hY6a⟩)
            clear hP3 hss hAm hAl
            refine wp_region_noPanic ?_
            refine tr_start (.y 0 (.y 1 (.y 2 (.y 4 (.y 7 (.y 8 (.y 10 (.two 3 5 (.e 5 (.e 6 (.e 9 (.y 11 (.y 12 .nil))))) (.e 3 (.e 6 (.e 9 (.y 11 (.y 12 .nil))))))))))))) (fun w' => Ext w3 w') (by kernel_rfl) (by kernel_rfl) (fun _ _ _ _ _ h => h) (by (repeat (first | assumption | exact Ext.refl _ | refine Ext.drew ?_ | refine Ext.alloc ?_ _ | refine Ext.drewN ?_ _ | refine Ext.trans ?_ (by assumption)))) ?_
            have hYd : Ext w3 w6a.drew := by (repeat (first | assumption | exact Ext.refl _ | refine Ext.drew ?_ | refine Ext.alloc ?_ _ | refine Ext.drewN ?_ _ | refine Ext.trans ?_ (by assumption)))
            generalize w6a.drew = wd at hYd ⊢
            iterate 7 (first | (refine tr_off (a' := ?_) rfl rfl (by rfl) ?_ ?_; rotate_left 1; (· simp only [Act.put, List.setIfInBounds_toArray, List.set_cons_zero, List.set_cons_succ]; rfl)) | (refine tr_y (v := ?_) (a' := ?_) rfl rfl (by rfl) (fun w' hw' => ?_) ?_ ?_; rotate_left 2; (· go_simp; with_reducible rfl); (· simp only [Act.put, List.setIfInBounds_toArray, List.set_cons_zero, List.set_cons_succ]; rfl)))
            refine tr_two ?_ ?_
            · refine tr_call (args := ?_) rfl Tryd.func23 (by kernel_rfl) rfl (by rfl) rfl rfl ?_ ?_
              rotate_left 1
              · go_simp; rfl
              have hcp := hcopy _ hYd
              rw [hxn] at hcp
              refine hcp.mono ?_
              rintro e w6 ⟨v6, rfl, hown6, hE6⟩
              have hY6b : Ext w3 w6 := hYd.trans hE6
              refine ⟨_, _, rfl, hY6b, (by simp only [Act.put, List.setIfInBounds_toArray, List.set_cons_zero, List.set_cons_succ]; rfl), ?_⟩
              refine tr_value (v := ?_) (w1 := ?_) (a' := ?_) rfl rfl (by rfl) ?_ ?_ ?_ ?_
              rotate_left 3
              · go_simp; refine ⟨?_, ?_⟩ <;> with_reducible rfl
              · exact (hY6b.alloc _)
              · simp only [Act.put, List.setIfInBounds_toArray, List.set_cons_zero, List.set_cons_succ]; rfl
              refine tr_append (news := [.string rp, .int .i64 rr]) rfl (by rfl) rfl elt_rule (.tmp 105) (.tmp 107) rfl (hown6.alloc _) rfl rfl ?_ ?_ ?_ ?_ ?_ ?_
              · exact ⟨rfl, (fun h => by cases h), fun ad h j u hu => (by cases h; exact new_cells w6 _ #[.string rp, .int .i64 rr] j u hu)⟩
              · intro u hu; simp at hu; rcases hu with rfl | rfl <;> rfl
              · unfold maxLen; omega
              · omega
              · have := hE6.le; simp; omega
              intro v7 w7 hown7 hgrow7
              have hY7 := grown_ext2 (hY6b.alloc _) (hown6.alloc _) hgrow7 hYd.le
              clear hgrow7
              have hl7 : (xs ++ [(⟨rp, rr⟩ : Rule)]).length = k + 1 := by simp; omega
              obtain ⟨A7, c7, rfl, hc7, hS7⟩ := own_rules (v := v7) (l := xs ++ [⟨rp, rr⟩]) (by
                rw [hl7, List.flatMap_append]
                simpa [encRule] using hown7)
              refine ⟨_, hY7, (by simp only [Act.put, List.setIfInBounds_toArray, List.set_cons_zero, List.set_cons_succ]; rfl), ?_⟩
              have hA7 := allowed_any w7 A7 c7 (xs ++ [⟨rp, rr⟩]) hS7 hc7 (by omega) (fun x hx => by
                rcases List.mem_append.1 hx with hx | hx
                · exact hp x hx
                · obtain rfl : x = ⟨rp, rr⟩ := by simpa using hx
                  show rp.size ≤ _; omega) q s
              rw [added_same xs ⟨rp, rr⟩ q s (sameG_yes hsm), hwas, hl7] at hA7
              clear hown7 hS7 hc7
              refine tr_call (args := ?_) rfl Tryd.func24 (by kernel_rfl) rfl (by rfl) rfl rfl ?_ ?_
              rotate_left 1
              · go_simp; rfl
              (with_reducible refine (hA7).mono ?_)
              rintro e w8 ⟨rfl, hY8⟩
              refine ⟨_, _, rfl, (hY7.trans hY8), (by simp only [Act.put, List.setIfInBounds_toArray, List.set_cons_zero, List.set_cons_succ]; rfl), ?_⟩
              (first | (refine tr_off (a' := ?_) rfl rfl (by rfl) ?_ ?_; rotate_left 1; (· simp only [Act.put, List.setIfInBounds_toArray, List.set_cons_zero, List.set_cons_succ]; rfl)) | (refine tr_y (v := ?_) (a' := ?_) rfl rfl (by rfl) (fun w' hw' => ?_) ?_ ?_; rotate_left 2; (· go_simp; with_reducible rfl); (· simp only [Act.put, List.setIfInBounds_toArray, List.set_cons_zero, List.set_cons_succ]; rfl)))
              (first | (refine tr_off (a' := ?_) rfl rfl (by rfl) ?_ ?_; rotate_left 1; (· simp only [Act.put, List.setIfInBounds_toArray, List.set_cons_zero, List.set_cons_succ]; rfl)) | (refine tr_y (v := ?_) (a' := ?_) rfl rfl (by rfl) (fun w' hw' => ?_) ?_ ?_; rotate_left 2; (· go_simp; with_reducible rfl); (· simp only [Act.put, List.setIfInBounds_toArray, List.set_cons_zero, List.set_cons_succ]; rfl)))
              refine tr_end (NoPanic.normal ?_)
              have hY9 := hY7.trans hY8
              clear hY7 hY8 hl7 hA7 hE6 hY6b hcp
              go_wp2_with fail
              refine st_start (fun _ w' => Ext w3 w') (fun _ => false) (by kernel_rfl) (by kernel_rfl) (by (repeat (first | assumption | exact Ext.refl _ | refine Ext.drew ?_ | refine Ext.alloc ?_ _ | refine Ext.drewN ?_ _ | refine Ext.trans ?_ (by assumption)))) ?_
              iterate 21 (first | (refine st_off (a' := ?_) rfl (by rfl) rfl ?_ ?_; rotate_left 1; (· simp only [Act.put, List.setIfInBounds_toArray, List.set_cons_zero, List.set_cons_succ]; rfl)) | (refine st_y (v := ?_) (a' := ?_) rfl (by rfl) rfl (fun k w' hw' => ?_) ?_ ?_; rotate_left 2; (· go_simp; with_reducible rfl); (· simp only [Act.put, List.setIfInBounds_toArray, List.set_cons_zero, List.set_cons_succ]; rfl)))
              refine st_end ?_
              intro w9 hY10
              go_wp2_with (go_at_call 10; (with_reducible refine (works_any _).mono ?_); rintro e w' ⟨rfl, hZ⟩; have hY9 : Ext w3 w' := (by (repeat (first | assumption | exact Ext.refl _ | refine Ext.drew ?_ | refine Ext.alloc ?_ _ | refine Ext.drewN ?_ _ | refine Ext.trans ?_ (by assumption)))))
              go_ret
              exact ⟨rfl, hE4.trans (by (repeat (first | assumption | exact Ext.refl _ | refine Ext.drew ?_ | refine Ext.alloc ?_ _ | refine Ext.drewN ?_ _ | refine Ext.trans ?_ (by assumption))))⟩
            · refine tr_value (v := ?_) (w1 := ?_) (a' := ?_) rfl rfl (by rfl) ?_ ?_ ?_ ?_
              rotate_left 3
              · go_simp; refine ⟨?_, ?_⟩ <;> with_reducible rfl
              · exact (hYd.alloc _)
              · simp only [Act.put, List.setIfInBounds_toArray, List.set_cons_zero, List.set_cons_succ]; rfl
              refine tr_call (args := ?_) rfl Tryd.func23 (by kernel_rfl) rfl (by rfl) rfl rfl ?_ ?_
              rotate_left 1
              · go_simp; rfl
              have hcp := hcopy _ (hYd.alloc (.cells #[.string rp, .int .i64 rr] 40))
              rw [hxn] at hcp
              refine hcp.mono ?_
              rintro e w6 ⟨v6, rfl, hown6, hE6⟩
              have hY6b : Ext w3 w6 := (hYd.alloc _).trans hE6
              refine ⟨_, _, rfl, hY6b, (by simp only [Act.put, List.setIfInBounds_toArray, List.set_cons_zero, List.set_cons_succ]; rfl), ?_⟩
              refine tr_append (news := [.string rp, .int .i64 rr]) rfl (by rfl) rfl elt_rule (.tmp 105) (.tmp 107) rfl hown6 rfl rfl ?_ ?_ ?_ ?_ ?_ ?_
              · exact ⟨rfl, (fun h => by cases h), fun ad h j u hu => (by cases h; exact hE6.cellk (new_cells wd _ #[.string rp, .int .i64 rr] j u hu))⟩
              · intro u hu; simp at hu; rcases hu with rfl | rfl <;> rfl
              · unfold maxLen; omega
              · omega
              · have := hE6.le; simp at this ⊢; omega
              intro v7 w7 hown7 hgrow7
              have hY7 := grown_ext2 hY6b hown6 hgrow7 (Ext.le (hYd.alloc _))
              clear hgrow7
              have hl7 : (xs ++ [(⟨rp, rr⟩ : Rule)]).length = k + 1 := by simp; omega
              obtain ⟨A7, c7, rfl, hc7, hS7⟩ := own_rules (v := v7) (l := xs ++ [⟨rp, rr⟩]) (by
                rw [hl7, List.flatMap_append]
                simpa [encRule] using hown7)
              refine ⟨_, hY7, (by simp only [Act.put, List.setIfInBounds_toArray, List.set_cons_zero, List.set_cons_succ]; rfl), ?_⟩
              have hA7 := allowed_any w7 A7 c7 (xs ++ [⟨rp, rr⟩]) hS7 hc7 (by omega) (fun x hx => by
                rcases List.mem_append.1 hx with hx | hx
                · exact hp x hx
                · obtain rfl : x = ⟨rp, rr⟩ := by simpa using hx
                  show rp.size ≤ _; omega) q s
              rw [added_same xs ⟨rp, rr⟩ q s (sameG_yes hsm), hwas, hl7] at hA7
              clear hown7 hS7 hc7
              refine tr_call (args := ?_) rfl Tryd.func24 (by kernel_rfl) rfl (by rfl) rfl rfl ?_ ?_
              rotate_left 1
              · go_simp; rfl
              (with_reducible refine (hA7).mono ?_)
              rintro e w8 ⟨rfl, hY8⟩
              refine ⟨_, _, rfl, (hY7.trans hY8), (by simp only [Act.put, List.setIfInBounds_toArray, List.set_cons_zero, List.set_cons_succ]; rfl), ?_⟩
              (first | (refine tr_off (a' := ?_) rfl rfl (by rfl) ?_ ?_; rotate_left 1; (· simp only [Act.put, List.setIfInBounds_toArray, List.set_cons_zero, List.set_cons_succ]; rfl)) | (refine tr_y (v := ?_) (a' := ?_) rfl rfl (by rfl) (fun w' hw' => ?_) ?_ ?_; rotate_left 2; (· go_simp; with_reducible rfl); (· simp only [Act.put, List.setIfInBounds_toArray, List.set_cons_zero, List.set_cons_succ]; rfl)))
              (first | (refine tr_off (a' := ?_) rfl rfl (by rfl) ?_ ?_; rotate_left 1; (· simp only [Act.put, List.setIfInBounds_toArray, List.set_cons_zero, List.set_cons_succ]; rfl)) | (refine tr_y (v := ?_) (a' := ?_) rfl rfl (by rfl) (fun w' hw' => ?_) ?_ ?_; rotate_left 2; (· go_simp; with_reducible rfl); (· simp only [Act.put, List.setIfInBounds_toArray, List.set_cons_zero, List.set_cons_succ]; rfl)))
              refine tr_end (NoPanic.normal ?_)
              have hY9 := hY7.trans hY8
              clear hY7 hY8 hl7 hA7 hE6 hY6b hcp
              go_wp2_with fail
              refine st_start (fun _ w' => Ext w3 w') (fun _ => false) (by kernel_rfl) (by kernel_rfl) (by (repeat (first | assumption | exact Ext.refl _ | refine Ext.drew ?_ | refine Ext.alloc ?_ _ | refine Ext.drewN ?_ _ | refine Ext.trans ?_ (by assumption)))) ?_
              iterate 21 (first | (refine st_off (a' := ?_) rfl (by rfl) rfl ?_ ?_; rotate_left 1; (· simp only [Act.put, List.setIfInBounds_toArray, List.set_cons_zero, List.set_cons_succ]; rfl)) | (refine st_y (v := ?_) (a' := ?_) rfl (by rfl) rfl (fun k w' hw' => ?_) ?_ ?_; rotate_left 2; (· go_simp; with_reducible rfl); (· simp only [Act.put, List.setIfInBounds_toArray, List.set_cons_zero, List.set_cons_succ]; rfl)))
              refine st_end ?_
              intro w9 hY10
              go_wp2_with (go_at_call 10; (with_reducible refine (works_any _).mono ?_); rintro e w' ⟨rfl, hZ⟩; have hY9 : Ext w3 w' := (by (repeat (first | assumption | exact Ext.refl _ | refine Ext.drew ?_ | refine Ext.alloc ?_ _ | refine Ext.drewN ?_ _ | refine Ext.trans ?_ (by assumption)))))
              go_ret
              exact ⟨rfl, hE4.trans (by (repeat (first | assumption | exact Ext.refl _ | refine Ext.drew ?_ | refine Ext.alloc ?_ _ | refine Ext.drewN ?_ _ | refine Ext.trans ?_ (by assumption))))⟩
end Go.Proofs.YtmdjndhebgnjoaaDoor
