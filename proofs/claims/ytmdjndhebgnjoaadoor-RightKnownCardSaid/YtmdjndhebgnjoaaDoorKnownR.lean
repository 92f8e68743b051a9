/- The closed statement on rights, walked. -/
import Derived.Test.YtmdjndhebgnjoaaDoorNames
import Derived.Test.YtmdjndhebgnjoaaDoorGrants
import Derived.Test.YtmdjndhebgnjoaaDoorLess
import Derived.Test.YtmdjndhebgnjoaaDoorOrderC
import Derived.Test.YtmdjndhebgnjoaaDoorRulesF
import Derived.Test.YtmdjndhebgnjoaaDoorAdded
namespace Go.Proofs.YtmdjndhebgnjoaaDoor
set_option linter.unusedVariables false
set_option linter.unusedSimpArgs false
open Go.RowKit
open Go.Shelf
def numsK : List Int := [-9223372036854775808, -1, 0, 1, 2, 3, 126, 127, 128, 1099511627776, 1099511627777, 9223372036854775807]
def textsK : List ByteArray := [⟨#[]⟩, ⟨#[97]⟩, ⟨#[97, 98]⟩, ⟨#[97, 98, 99]⟩, ⟨#[98]⟩, ⟨#[65]⟩, ⟨#[97, 98, 99, 100, 101, 102, 103, 104, 105, 106, 107, 108, 109, 110, 111, 112, 113, 114, 115, 116, 117, 118, 119, 120]⟩, ⟨#[97, 98, 99, 100, 101, 102, 103, 104, 105, 106, 107, 108, 109, 110, 111, 112, 113, 114, 115, 116, 117, 118, 119, 120, 121]⟩]
theorem numsK_at (k : Nat) (h : k < 12) : (#[.int .i64 (-9223372036854775808), .int .i64 (-1), .int .i64 0, .int .i64 1, .int .i64 2, .int .i64 3, .int .i64 126, .int .i64 127, .int .i64 128, .int .i64 1099511627776, .int .i64 1099511627777, .int .i64 9223372036854775807] : Array Value)[k]? = some (.int .i64 (numsK[k]'h)) := by
  have e : (#[.int .i64 (-9223372036854775808), .int .i64 (-1), .int .i64 0, .int .i64 1, .int .i64 2, .int .i64 3, .int .i64 126, .int .i64 127, .int .i64 128, .int .i64 1099511627776, .int .i64 1099511627777, .int .i64 9223372036854775807] : Array Value) = (numsK.map (Value.int .i64)).toArray := rfl
  rw [e, List.getElem?_toArray, List.getElem?_map, List.getElem?_eq_getElem h]
  rfl
theorem textsK_at (k : Nat) (h : k < 8) : (#[.string ⟨#[]⟩, .string ⟨#[97]⟩, .string ⟨#[97, 98]⟩, .string ⟨#[97, 98, 99]⟩, .string ⟨#[98]⟩, .string ⟨#[65]⟩, .string ⟨#[97, 98, 99, 100, 101, 102, 103, 104, 105, 106, 107, 108, 109, 110, 111, 112, 113, 114, 115, 116, 117, 118, 119, 120]⟩, .string ⟨#[97, 98, 99, 100, 101, 102, 103, 104, 105, 106, 107, 108, 109, 110, 111, 112, 113, 114, 115, 116, 117, 118, 119, 120, 121]⟩] : Array Value)[k]? = some (.string (textsK[k]'h)) := by
  have e : (#[.string ⟨#[]⟩, .string ⟨#[97]⟩, .string ⟨#[97, 98]⟩, .string ⟨#[97, 98, 99]⟩, .string ⟨#[98]⟩, .string ⟨#[65]⟩, .string ⟨#[97, 98, 99, 100, 101, 102, 103, 104, 105, 106, 107, 108, 109, 110, 111, 112, 113, 114, 115, 116, 117, 118, 119, 120]⟩, .string ⟨#[97, 98, 99, 100, 101, 102, 103, 104, 105, 106, 107, 108, 109, 110, 111, 112, 113, 114, 115, 116, 117, 118, 119, 120, 121]⟩] : Array Value) = (textsK.map Value.string).toArray := rfl
  rw [e, List.getElem?_toArray, List.getElem?_map, List.getElem?_eq_getElem h]
  rfl
theorem numsK_wf : ∀ x ∈ numsK, (Lit.int .i64 x).wf = true := by decide
theorem textsK_sz : ∀ x ∈ textsK, x.size ≤ 25 := by decide
def cellsR (l : List Rule) : Array Value := (l.flatMap encRule).toArray
theorem rules_new (w : World) (l : List Rule) : rdRule.Sl (w.alloc (.cells (cellsR l) 40)) (some ⟨w.heap.size, 0, none⟩) l.length l := by
  refine ⟨rfl, fun _ => ⟨w.heap.size, 0, rfl, fun i hi => ⟨encRule l[i], encRule_K _ _, fun j u hu => ?_⟩⟩⟩
  have hj : j < 2 := (List.getElem?_eq_some_iff.1 hu).1
  have h1 := flat_get (f := encRule) (sz := 2) encRule_len l i j hi hj
  have h2 := (Blk.new w 40 (cellsR l)).cell (i * 2 + j) (v := u) (by unfold cellsR; rw [List.getElem?_toArray, h1]; exact hu)
  simpa [rdRule, Rd.pair, Rd.iso, Rd.str, Rd.int] using h2
def rulesK : List Rule := [⟨⟨#[111, 112, 101, 110]⟩, 127⟩, ⟨⟨#[111, 112, 101, 110, 46, 108, 111, 103]⟩, 2⟩]
theorem al1 : allowedG rulesK 1 ⟨#[111, 112, 101, 110]⟩ = true := by decide
theorem al2 : allowedG rulesK 1 ⟨#[111, 112, 101, 110, 46, 108, 111, 103, 46, 120]⟩ = false := by decide
theorem al3 : allowedG rulesK 1 ⟨#[115, 104, 117, 116]⟩ = true := by decide
theorem nums_two (c : Nat) (hc : c < 256) : strOfNums [97, (c : Int)] = ⟨#[97, UInt8.ofNat c]⟩ := by
  unfold strOfNums
  simp
theorem two_bytes {w : World} {g c : Nat} (hc : c < 256) (K : Blk w g 5 #[.int .u8 97, .int .u8 (c : Int)]) : (convert 32 9 (.slice (some ⟨g, 0, none⟩) 2 2)).run Tryd.prog w = .ok (.string ⟨#[97, UInt8.ofNat c]⟩) w := by
  rw [run_convert_bytes_arg _ 32 5 Tryd.underlying32 Tryd.underlying5 _ 0 2 2 [97, (c : Int)] rfl (fun i hi => by
    obtain rfl | rfl : i = 0 ∨ i = 1 := by omega
    · exact K.cell 0 rfl
    · exact K.cell 1 rfl) 9 Tryd.underlying9, nums_two c hc]
set_option maxHeartbeats 9000000 in
set_option maxRecDepth 100000 in
theorem known_walk (w : World) : Calls Tryd.prog 9 #[] w fun e w' => e = .returned (.bool true) ∧ Ext w w' := by
  have hop := open_any
  have hwo := works_any
  have hY0 : Ext w w := Ext.refl w
  go_enter Tryd.func9, Tryd.ntmps9
  go_wp2_with fail
  go_loopw [1] (fun i wr => ∃ c : Nat, c ≤ 256 ∧ i = .int .i64 c ∧ Ext w wr) (fun i _ => 256 - (intOf i).toNat)
  case atStart => exact ⟨0, by omega, rfl, Ext.refl w⟩
  case round =>
    obtain ⟨c, hc, rfl, hwr⟩ := hrel
    by_cases hlt : c < 256
    · have hcI : decide ((c : Int) < 256) = true := by simp; omega
      have hcP : (c : Int) < 256 := by omega
      have hcw : IntKind.u8.wrap (c : Int) = (c : Int) := by simp only [IntKind.wrap, IntKind.signed, IntKind.bits]; simp; omega
      have h1 := fun w' => names_walk ⟨#[97, 98, 45, 99]⟩ ⟨#[100]⟩ c c w' (by omega) (by omega)
      have h2 := fun w' => names_walk ⟨#[97]⟩ ⟨#[122, 57]⟩ 0 c w' (by omega) (by omega)
      have h3 := fun w' => grants_walk 2 ⟨#[111, 112, 101, 110]⟩ false 9 0 ⟨#[]⟩ false 0 c ⟨#[97, UInt8.ofNat c]⟩ w' (by show 2 ≤ _; decide) (by decide) (by decide) rfl rfl ((wfI_iff _).2 (by omega))
      go_wp2_with fail
      refine wp_region_noPanic ?_
      refine tr_start (.y 0 (.y 1 (.y 2 (.e 3 (.y 4 (.y 5 (.y 6 (.y 7 (.e 8 (.y 9 (.y 10 (.y 11 (.y 13 (.y 14 (.y 15 (.y 16 (.two 12 17 (.e 17 (.e 18 (.e 19 (.y 20 (.y 21 .nil))))) (.two 12 18 (.e 18 (.e 19 (.y 20 (.y 21 .nil)))) (.e 12 (.e 19 (.y 20 (.y 21 .nil)))))))))))))))))))))) (fun w' => Ext wr w') (by kernel_rfl) (by as_aux_lemma => kernel_rfl) (fun _ _ _ _ _ h => h) (by (repeat (first | assumption | exact Ext.refl _ | refine Ext.drew ?_ | refine Ext.alloc ?_ _ | refine Ext.drewN ?_ _ | refine Ext.trans ?_ (by assumption)))) ?_
      have hYd : Ext wr wr.drew := by (repeat (first | assumption | exact Ext.refl _ | refine Ext.drew ?_ | refine Ext.alloc ?_ _ | refine Ext.drewN ?_ _ | refine Ext.trans ?_ (by assumption)))
      generalize wr.drew = wd at hYd ⊢
      iterate 3 (first | (refine tr_off (a' := ?_) rfl rfl (by rfl) ?_ ?_; rotate_left 1; (· simp only [Act.put, List.setIfInBounds_toArray, List.set_cons_zero, List.set_cons_succ]; rfl)) | (refine tr_y (v := ?_) (a' := ?_) rfl rfl (by rfl) (fun w' hw' => ?_) ?_ ?_; rotate_left 2; (· go_simp; with_reducible rfl); (· simp only [Act.put, List.setIfInBounds_toArray, List.set_cons_zero, List.set_cons_succ]; rfl)))
      refine tr_call (args := ?_) rfl Tryd.func4 (by kernel_rfl) rfl (by rfl) rfl rfl ?_ ?_
      rotate_left 1
      · go_simp; rfl
      (with_reducible refine (h1 _).mono ?_)
      rintro e w1 ⟨rfl, hE1⟩
      refine ⟨_, _, rfl, hYd.trans hE1, (by simp only [Act.put, List.setIfInBounds_toArray, List.set_cons_zero, List.set_cons_succ]; rfl), ?_⟩
      have hY1 := hYd.trans hE1
      iterate 4 (first | (refine tr_off (a' := ?_) rfl rfl (by rfl) ?_ ?_; rotate_left 1; (· simp only [Act.put, List.setIfInBounds_toArray, List.set_cons_zero, List.set_cons_succ]; rfl)) | (refine tr_y (v := ?_) (a' := ?_) rfl rfl (by rfl) (fun w' hw' => ?_) ?_ ?_; rotate_left 2; (· go_simp; with_reducible rfl); (· simp only [Act.put, List.setIfInBounds_toArray, List.set_cons_zero, List.set_cons_succ]; rfl)))
      refine tr_call (args := ?_) rfl Tryd.func4 (by kernel_rfl) rfl (by rfl) rfl rfl ?_ ?_
      rotate_left 1
      · go_simp; rfl
      (with_reducible refine (h2 _).mono ?_)
      rintro e w2 ⟨rfl, hE2⟩
      refine ⟨_, _, rfl, hY1.trans hE2, (by simp only [Act.put, List.setIfInBounds_toArray, List.set_cons_zero, List.set_cons_succ]; rfl), ?_⟩
      have hY2 := hY1.trans hE2
      iterate 7 (first | (refine tr_off (a' := ?_) rfl rfl (by rfl) ?_ ?_; rotate_left 1; (· simp only [Act.put, List.setIfInBounds_toArray, List.set_cons_zero, List.set_cons_succ]; rfl)) | (refine tr_y (v := ?_) (a' := ?_) rfl rfl (by rfl) (fun w' hw' => ?_) ?_ ?_; rotate_left 2; (· go_simp; with_reducible rfl); (· simp only [Act.put, List.setIfInBounds_toArray, List.set_cons_zero, List.set_cons_succ]; rfl)))
      refine tr_two ?_ ?_
      · refine tr_call (args := ?_) rfl Tryd.func30 (by kernel_rfl) rfl (by rfl) rfl rfl ?_ ?_
        rotate_left 1
        · go_simp; rfl
        (with_reducible refine (hop _).mono ?_)
        rintro e w3 ⟨rfl, hE3⟩
        refine ⟨_, _, rfl, hY2.trans hE3, (by simp only [Act.put, List.setIfInBounds_toArray, List.set_cons_zero, List.set_cons_succ]; rfl), ?_⟩
        have hY3 := hY2.trans hE3
        refine tr_value (v := ?_) (w1 := ?_) (a' := ?_) rfl rfl (by rfl) ?_ ?_ ?_ ?_
        rotate_left 3
        · go_simp; refine ⟨?_, ?_⟩ <;> with_reducible rfl
        · exact hY3.alloc _
        · simp only [Act.put, List.setIfInBounds_toArray, List.set_cons_zero, List.set_cons_succ]; rfl
        refine tr_value (v := .string ⟨#[97, UInt8.ofNat c]⟩) (w1 := w3.alloc (.cells #[.int .u8 97, .int .u8 (c : Int)] 5)) (a' := ?_) rfl rfl (by rfl) ?_ ?_ ?_ ?_
        rotate_left 1
        · unfold execOp
          go_simp
          rw [two_bytes hlt (Blk.new _ _ _)]
          rfl
        · exact hY3.alloc _
        · simp only [Act.put, List.setIfInBounds_toArray, List.set_cons_zero, List.set_cons_succ]; rfl
        refine tr_call (args := ?_) rfl Tryd.func5 (by kernel_rfl) rfl (by rfl) rfl rfl ?_ ?_
        rotate_left 1
        · go_simp; rfl
        (with_reducible refine (h3 _).mono ?_)
        rintro e w4 ⟨rfl, hE4⟩
        refine ⟨_, _, rfl, (hY3.alloc _).trans hE4, (by simp only [Act.put, List.setIfInBounds_toArray, List.set_cons_zero, List.set_cons_succ]; rfl), ?_⟩
        have hY4 := (hY3.alloc _).trans hE4
        iterate 2 (first | (refine tr_off (a' := ?_) rfl rfl (by rfl) ?_ ?_; rotate_left 1; (· simp only [Act.put, List.setIfInBounds_toArray, List.set_cons_zero, List.set_cons_succ]; rfl)) | (refine tr_y (v := ?_) (a' := ?_) rfl rfl (by rfl) (fun w' hw' => ?_) ?_ ?_; rotate_left 2; (· go_simp; with_reducible rfl); (· simp only [Act.put, List.setIfInBounds_toArray, List.set_cons_zero, List.set_cons_succ]; rfl)))
        refine tr_end (NoPanic.normal ?_)
        go_wp2_with fail
        go_roundw
        case rel => exact ⟨c + 1, by omega, by go_num, hwr.trans hY4⟩
        case measure => simp [intOf]; omega
      · refine tr_value (v := ?_) (w1 := ?_) (a' := ?_) rfl rfl (by rfl) ?_ ?_ ?_ ?_
        rotate_left 3
        · go_simp; refine ⟨?_, ?_⟩ <;> with_reducible rfl
        · exact hY2.alloc _
        · simp only [Act.put, List.setIfInBounds_toArray, List.set_cons_zero, List.set_cons_succ]; rfl
        refine tr_two ?_ ?_
        · refine tr_call (args := ?_) rfl Tryd.func30 (by kernel_rfl) rfl (by rfl) rfl rfl ?_ ?_
          rotate_left 1
          · go_simp; rfl
          (with_reducible refine (hop _).mono ?_)
          rintro e w3 ⟨rfl, hE3⟩
          refine ⟨_, _, rfl, (hY2.alloc _).trans hE3, (by simp only [Act.put, List.setIfInBounds_toArray, List.set_cons_zero, List.set_cons_succ]; rfl), ?_⟩
          have hY3 := (hY2.alloc _).trans hE3
          refine tr_value (v := .string ⟨#[97, UInt8.ofNat c]⟩) (w1 := w3) (a' := ?_) rfl rfl (by rfl) ?_ ?_ ?_ ?_
          rotate_left 1
          · unfold execOp
            go_simp
            rw [two_bytes hlt ((Blk.new w2 _ _).ext hE3)]
            rfl
          · exact hY3
          · simp only [Act.put, List.setIfInBounds_toArray, List.set_cons_zero, List.set_cons_succ]; rfl
          refine tr_call (args := ?_) rfl Tryd.func5 (by kernel_rfl) rfl (by rfl) rfl rfl ?_ ?_
          rotate_left 1
          · go_simp; rfl
          (with_reducible refine (h3 _).mono ?_)
          rintro e w4 ⟨rfl, hE4⟩
          refine ⟨_, _, rfl, hY3.trans hE4, (by simp only [Act.put, List.setIfInBounds_toArray, List.set_cons_zero, List.set_cons_succ]; rfl), ?_⟩
          have hY4 := hY3.trans hE4
          iterate 2 (first | (refine tr_off (a' := ?_) rfl rfl (by rfl) ?_ ?_; rotate_left 1; (· simp only [Act.put, List.setIfInBounds_toArray, List.set_cons_zero, List.set_cons_succ]; rfl)) | (refine tr_y (v := ?_) (a' := ?_) rfl rfl (by rfl) (fun w' hw' => ?_) ?_ ?_; rotate_left 2; (· go_simp; with_reducible rfl); (· simp only [Act.put, List.setIfInBounds_toArray, List.set_cons_zero, List.set_cons_succ]; rfl)))
          refine tr_end (NoPanic.normal ?_)
          go_wp2_with fail
          go_roundw
          case rel => exact ⟨c + 1, by omega, by go_num, hwr.trans hY4⟩
          case measure => simp [intOf]; omega
        · refine tr_value (v := .string ⟨#[97, UInt8.ofNat c]⟩) (w1 := w2.alloc (.cells #[.int .u8 97, .int .u8 (c : Int)] 5)) (a' := ?_) rfl rfl (by rfl) ?_ ?_ ?_ ?_
          rotate_left 1
          · unfold execOp
            go_simp
            rw [two_bytes hlt (Blk.new _ _ _)]
            rfl
          · exact hY2.alloc _
          · simp only [Act.put, List.setIfInBounds_toArray, List.set_cons_zero, List.set_cons_succ]; rfl
          refine tr_call (args := ?_) rfl Tryd.func30 (by kernel_rfl) rfl (by rfl) rfl rfl ?_ ?_
          rotate_left 1
          · go_simp; rfl
          (with_reducible refine (hop _).mono ?_)
          rintro e w3 ⟨rfl, hE3⟩
          refine ⟨_, _, rfl, (hY2.alloc _).trans hE3, (by simp only [Act.put, List.setIfInBounds_toArray, List.set_cons_zero, List.set_cons_succ]; rfl), ?_⟩
          have hY3 := (hY2.alloc _).trans hE3
          refine tr_call (args := ?_) rfl Tryd.func5 (by kernel_rfl) rfl (by rfl) rfl rfl ?_ ?_
          rotate_left 1
          · go_simp; rfl
          (with_reducible refine (h3 _).mono ?_)
          rintro e w4 ⟨rfl, hE4⟩
          refine ⟨_, _, rfl, hY3.trans hE4, (by simp only [Act.put, List.setIfInBounds_toArray, List.set_cons_zero, List.set_cons_succ]; rfl), ?_⟩
          have hY4 := hY3.trans hE4
          iterate 2 (first | (refine tr_off (a' := ?_) rfl rfl (by rfl) ?_ ?_; rotate_left 1; (· simp only [Act.put, List.setIfInBounds_toArray, List.set_cons_zero, List.set_cons_succ]; rfl)) | (refine tr_y (v := ?_) (a' := ?_) rfl rfl (by rfl) (fun w' hw' => ?_) ?_ ?_; rotate_left 2; (· go_simp; with_reducible rfl); (· simp only [Act.put, List.setIfInBounds_toArray, List.set_cons_zero, List.set_cons_succ]; rfl)))
          refine tr_end (NoPanic.normal ?_)
          go_wp2_with fail
          go_roundw
          case rel => exact ⟨c + 1, by omega, by go_num, hwr.trans hY4⟩
          case measure => simp [intOf]; omega
    · obtain rfl : c = 256 := by omega
      have hX0 := hwr
      clear hwr
      go_wp2_with fail
      obtain ⟨W, hW, hEW, bx, cx⟩ := box2 wr #[.int .i64 (-9223372036854775808), .int .i64 (-1), .int .i64 0, .int .i64 1, .int .i64 2, .int .i64 3, .int .i64 126, .int .i64 127, .int .i64 128, .int .i64 1099511627776, .int .i64 1099511627777, .int .i64 9223372036854775807] #[.string ⟨#[]⟩, .string ⟨#[97]⟩, .string ⟨#[97, 98]⟩, .string ⟨#[97, 98, 99]⟩, .string ⟨#[98]⟩, .string ⟨#[65]⟩, .string ⟨#[97, 98, 99, 100, 101, 102, 103, 104, 105, 106, 107, 108, 109, 110, 111, 112, 113, 114, 115, 116, 117, 118, 119, 120]⟩, .string ⟨#[97, 98, 99, 100, 101, 102, 103, 104, 105, 106, 107, 108, 109, 110, 111, 112, 113, 114, 115, 116, 117, 118, 119, 120, 121]⟩] 3 9
      rw [← hW]
      have hb := fun k (h : k < 12) => bx k _ (numsK_at k h)
      have hp := fun k (h : k < 8) => cx k _ (textsK_at k h)
      have hXW := hX0.trans hEW
      generalize wr.heap.size = g0 at hb hp ⊢
      clear bx cx hW hX0 hEW
      go_loopw [4] (fun i ws => ∃ a : Nat, a ≤ 12 ∧ i = .int .i64 a ∧ Ext W ws) (fun i _ => 12 - (intOf i).toNat)
      case atStart => exact ⟨0, by omega, rfl, Ext.refl W⟩
      case round =>
        obtain ⟨a, ha12, rfl, hwa⟩ := hrel
        by_cases hla : a < 12
        · have haI : decide ((a : Int) < 12) = true := by simp; omega
          have haP : (a : Int) < 12 := by omega
          obtain ⟨wo1, rfl⟩ : ∃ wo : World, wo = wr := ⟨_, rfl⟩
          go_wp2_with fail
          go_loopw [5] (fun i ws => ∃ b : Nat, b ≤ 12 ∧ i = .int .i64 b ∧ Ext W ws) (fun i _ => 12 - (intOf i).toNat)
          case atStart => exact ⟨0, by omega, rfl, hwa⟩
          case round =>
            clear hwa
            obtain ⟨b, hb12, rfl, hwb⟩ := hrel
            by_cases hlb : b < 12
            · have hbI : decide ((b : Int) < 12) = true := by simp; omega
              have hbP : (b : Int) < 12 := by omega
              obtain ⟨wo2, rfl⟩ : ∃ wo : World, wo = wr := ⟨_, rfl⟩
              go_wp2_with fail
              go_loopw [6] (fun i ws => ∃ m : Nat, m ≤ 8 ∧ i = .int .i64 m ∧ Ext W ws) (fun i _ => 8 - (intOf i).toNat)
              case atStart => exact ⟨0, by omega, rfl, hwb⟩
              case round =>
                clear hwb
                obtain ⟨m, hm8, rfl, hwm⟩ := hrel
                by_cases hlm : m < 8
                · have hmI : decide ((m : Int) < 8) = true := by simp; omega
                  have hmP : (m : Int) < 8 := by omega
                  obtain ⟨s1, hs1⟩ : ∃ s, (a + b) % 12 = s := ⟨_, rfl⟩
                  have ts1 : ((a : Int) + (b : Int)).tmod 12 = (s1 : Int) := by rw [Int.tmod_eq_emod_of_nonneg (by omega)]; omega
                  have zs1 : (0 : Int) ≤ (s1 : Int) := by omega
                  have ls1 : s1 < 12 := by omega
                  have ps1 : (s1 : Int) < 12 := by omega
                  clear hs1
                  obtain ⟨s2, hs2⟩ : ∃ s, (m + 2) % 8 = s := ⟨_, rfl⟩
                  have ts2 : ((m : Int) + 2).tmod 8 = (s2 : Int) := by rw [Int.tmod_eq_emod_of_nonneg (by omega)]; omega
                  have zs2 : (0 : Int) ≤ (s2 : Int) := by omega
                  have ls2 : s2 < 8 := by omega
                  have ps2 : (s2 : Int) < 8 := by omega
                  clear hs2
                  obtain ⟨s3, hs3⟩ : ∃ s, (m + 1) % 8 = s := ⟨_, rfl⟩
                  have ts3 : ((m : Int) + 1).tmod 8 = (s3 : Int) := by rw [Int.tmod_eq_emod_of_nonneg (by omega)]; omega
                  have zs3 : (0 : Int) ≤ (s3 : Int) := by omega
                  have ls3 : s3 < 8 := by omega
                  have ps3 : (s3 : Int) < 8 := by omega
                  clear hs3
                  obtain ⟨s4, hs4⟩ : ∃ s, (m + a) % 8 = s := ⟨_, rfl⟩
                  have ts4 : ((m : Int) + (a : Int)).tmod 8 = (s4 : Int) := by rw [Int.tmod_eq_emod_of_nonneg (by omega)]; omega
                  have zs4 : (0 : Int) ≤ (s4 : Int) := by omega
                  have ls4 : s4 < 8 := by omega
                  have ps4 : (s4 : Int) < 8 := by omega
                  clear hs4
                  obtain ⟨e2, he2⟩ : ∃ s, (a + b) % 2 = s := ⟨_, rfl⟩
                  have te2 : ((a : Int) + (b : Int)).tmod 2 = (e2 : Int) := by rw [Int.tmod_eq_emod_of_nonneg (by omega)]; omega
                  have ze2 : (0 : Int) ≤ (e2 : Int) := by omega
                  have le2 : e2 < 2 := by omega
                  have pe2 : (e2 : Int) < 2 := by omega
                  clear he2
                  obtain ⟨e3, he3⟩ : ∃ s, a % 3 = s := ⟨_, rfl⟩
                  have te3 : ((a : Int)).tmod 3 = (e3 : Int) := by rw [Int.tmod_eq_emod_of_nonneg (by omega)]; omega
                  have ze3 : (0 : Int) ≤ (e3 : Int) := by omega
                  have le3 : e3 < 3 := by omega
                  have pe3 : (e3 : Int) < 3 := by omega
                  clear he3
                  have w1 : IntKind.i64.wrap ((a : Int) + (b : Int)) = (a : Int) + (b : Int) := by rw [IntKind.wrap_i64]; omega
                  have w2 : IntKind.i64.wrap ((m : Int) + 2) = (m : Int) + 2 := by rw [IntKind.wrap_i64]; omega
                  have w3 : IntKind.i64.wrap ((m : Int) + 1) = (m : Int) + 1 := by rw [IntKind.wrap_i64]; omega
                  have w4 : IntKind.i64.wrap ((m : Int) + (a : Int)) = (m : Int) + (a : Int) := by rw [IntKind.wrap_i64]; omega
                  obtain ⟨bb1, q1⟩ : ∃ b, (((e2 : Nat) : Int) == 0) = b := ⟨_, rfl⟩
                  obtain ⟨bb2, q2⟩ : ∃ b, (((e3 : Nat) : Int) == 0) = b := ⟨_, rfl⟩
                  have ca := hb a hla
                  have cb := hb b hlb
                  have c1 := hb s1 ls1
                  have cm := hp m hlm
                  have c2 := hp s2 ls2
                  have c3 := hp s3 ls3
                  have c4 := hp s4 ls4
                  have fa := numsK_wf _ (List.getElem_mem (l := numsK) (n := a) hla)
                  have fb := numsK_wf _ (List.getElem_mem (l := numsK) (n := b) hlb)
                  have f1 := numsK_wf _ (List.getElem_mem (l := numsK) (n := s1) ls1)
                  have fm := textsK_sz _ (List.getElem_mem (l := textsK) (n := m) hlm)
                  have f2 := textsK_sz _ (List.getElem_mem (l := textsK) (n := s2) ls2)
                  have f3 := textsK_sz _ (List.getElem_mem (l := textsK) (n := s3) ls3)
                  have f4 := textsK_sz _ (List.getElem_mem (l := textsK) (n := s4) ls4)
                  generalize numsK[a]'hla = xa at ca fa
                  generalize numsK[b]'hlb = xb at cb fb
                  generalize numsK[s1]'ls1 = x1 at c1 f1
                  generalize textsK[m]'hlm = ym at cm fm
                  generalize textsK[s2]'ls2 = y2 at c2 f2
                  generalize textsK[s3]'ls3 = y3 at c3 f3
                  generalize textsK[s4]'ls4 = y4 at c4 f4
                  have ra := fun (w' : World) (h : Ext W w') => h.cellk ca
                  have rb := fun (w' : World) (h : Ext W w') => h.cellk cb
                  have r1 := fun (w' : World) (h : Ext W w') => h.cellk c1
                  have rm := fun (w' : World) (h : Ext W w') => h.cellk cm
                  have r2 := fun (w' : World) (h : Ext W w') => h.cellk c2
                  have r3 := fun (w' : World) (h : Ext W w') => h.cellk c3
                  have r4 := fun (w' : World) (h : Ext W w') => h.cellk c4
                  clear ca cb c1 cm c2 c3 c4 ls1 ls2 ls3 ls4 le2 le3
                  go_wp2_with fail
                  refine wp_region_noPanic ?_
                  refine tr_start (.y 0 (.y 1 (.y 2 (.y 3 (.y 4 (.y 5 (.y 6 (.y 7 (.y 8 (.y 9 (.y 10 (.y 11 (.y 12 (.y 13 (.y 14 (.y 15 (.y 16 (.y 17 (.e 18 (.e 19 .nil)))))))))))))))))))) (fun w' => Ext W w') (by kernel_rfl) (by as_aux_lemma => kernel_rfl) (fun _ _ _ _ _ h => h) (by (repeat (first | assumption | exact Ext.refl _ | refine Ext.drew ?_ | refine Ext.alloc ?_ _ | refine Ext.drewN ?_ _ | refine Ext.trans ?_ (by assumption)))) ?_
                  iterate 18 (first | (refine tr_off (a' := ?_) rfl rfl (by rfl) ?_ ?_; rotate_left 1; (· simp only [Act.put, List.setIfInBounds_toArray, List.set_cons_zero, List.set_cons_succ]; rfl)) | (refine tr_y (v := ?_) (a' := ?_) rfl rfl (by rfl) (fun w' hw' => ?_) ?_ ?_; rotate_left 2; (· go_simp; with_reducible rfl); (· simp only [Act.put, List.setIfInBounds_toArray, List.set_cons_zero, List.set_cons_succ]; rfl)))
                  have hYd : Ext W wr.drew := by (repeat (first | assumption | exact Ext.refl _ | refine Ext.drew ?_ | refine Ext.alloc ?_ _ | refine Ext.drewN ?_ _ | refine Ext.trans ?_ (by assumption)))
                  generalize wr.drew = wd at hYd ⊢
                  refine tr_value (v := ?_) (w1 := ?_) (a' := ?_) rfl rfl (by rfl) ?_ ?_ ?_ ?_
                  rotate_left 3
                  · go_simp; refine ⟨?_, ?_⟩ <;> with_reducible rfl
                  · exact hYd.alloc _
                  · simp only [Act.put, List.setIfInBounds_toArray, List.set_cons_zero, List.set_cons_succ]; rfl
                  refine tr_last (w1 := wd.alloc (.cells #[.int .i64 xa, .string ym, .bool bb1, .int .i64 xb] 23)) rfl (by rfl) rfl (by kernel_rfl) (by go_simp; try rfl) ?_
                  refine NoPanic.normal ?_
                  obtain ⟨V, hV, hEV, -⟩ := box1 wd #[.int .i64 xa, .string ym, .bool bb1, .int .i64 xb] 23
                  have Ka : Blk V wd.heap.size 23 #[.int .i64 xa, .string ym, .bool bb1, .int .i64 xb] := by rw [hV]; exact Blk.new _ _ _
                  rw [← hV]
                  have hXV := hYd.trans hEV
                  generalize wd.heap.size = ga at Ka ⊢
                  clear hV hEV hYd
                  go_wp2_with fail
                  refine wp_region_noPanic ?_
                  refine tr_start (.y 0 (.y 1 (.y 2 (.y 3 (.y 4 (.y 5 (.y 6 (.y 7 (.y 8 (.y 9 (.y 10 (.y 11 (.y 12 (.y 13 (.y 14 (.y 15 (.y 16 (.y 17 (.y 18 (.y 19 (.e 20 (.e 21 .nil)))))))))))))))))))))) (fun w' => Ext W w') (by kernel_rfl) (by as_aux_lemma => kernel_rfl) (fun _ _ _ _ _ h => h) (by (repeat (first | assumption | exact Ext.refl _ | refine Ext.drew ?_ | refine Ext.alloc ?_ _ | refine Ext.drewN ?_ _ | refine Ext.trans ?_ (by assumption)))) ?_
                  iterate 20 (first | (refine tr_off (a' := ?_) rfl rfl (by rfl) ?_ ?_; rotate_left 1; (· simp only [Act.put, List.setIfInBounds_toArray, List.set_cons_zero, List.set_cons_succ]; rfl)) | (refine tr_y (v := ?_) (a' := ?_) rfl rfl (by rfl) (fun w' hw' => ?_) ?_ ?_; rotate_left 2; (· go_simp; with_reducible rfl); (· simp only [Act.put, List.setIfInBounds_toArray, List.set_cons_zero, List.set_cons_succ]; rfl)))
                  have hYd : Ext W V.drew := by (repeat (first | assumption | exact Ext.refl _ | refine Ext.drew ?_ | refine Ext.alloc ?_ _ | refine Ext.drewN ?_ _ | refine Ext.trans ?_ (by assumption)))
                  have Kd := Ka.ext ((Ext.refl V).drew)
                  generalize V.drew = wd at hYd Kd ⊢
                  refine tr_value (v := ?_) (w1 := ?_) (a' := ?_) rfl rfl (by rfl) ?_ ?_ ?_ ?_
                  rotate_left 3
                  · go_simp; refine ⟨?_, ?_⟩ <;> with_reducible rfl
                  · exact hYd.alloc _
                  · simp only [Act.put, List.setIfInBounds_toArray, List.set_cons_zero, List.set_cons_succ]; rfl
                  refine tr_last (w1 := wd.alloc (.cells #[.int .i64 xb, .string y3, .bool bb2, .int .i64 xa] 23)) rfl (by rfl) rfl (by kernel_rfl) (by go_simp; try rfl) ?_
                  refine NoPanic.normal ?_
                  obtain ⟨U, hU, hEU, -⟩ := box1 wd #[.int .i64 xb, .string y3, .bool bb2, .int .i64 xa] 23
                  have Kb : Blk U wd.heap.size 23 #[.int .i64 xb, .string y3, .bool bb2, .int .i64 xa] := by rw [hU]; exact Blk.new _ _ _
                  have Ka := Kd.ext hEU
                  rw [← hU]
                  have hXU := hYd.trans hEU
                  generalize wd.heap.size = gb at Kb ⊢
                  clear hU hEU hYd Kd hXV
                  have kc0 := Ka.cell 0 (v := .int .i64 xa) rfl
                  have kr0 := fun (w' : World) (h : Ext U w') => h.cellk kc0
                  have kc1 := Ka.cell 1 (v := .string ym) rfl
                  have kr1 := fun (w' : World) (h : Ext U w') => h.cellk kc1
                  have kc2 := Ka.cell 2 (v := .bool bb1) rfl
                  have kr2 := fun (w' : World) (h : Ext U w') => h.cellk kc2
                  have kc3 := Ka.cell 3 (v := .int .i64 xb) rfl
                  have kr3 := fun (w' : World) (h : Ext U w') => h.cellk kc3
                  have lc0 := Kb.cell 0 (v := .int .i64 xb) rfl
                  have lr0 := fun (w' : World) (h : Ext U w') => h.cellk lc0
                  have lc1 := Kb.cell 1 (v := .string y3) rfl
                  have lr1 := fun (w' : World) (h : Ext U w') => h.cellk lc1
                  have lc2 := Kb.cell 2 (v := .bool bb2) rfl
                  have lr2 := fun (w' : World) (h : Ext U w') => h.cellk lc2
                  have lc3 := Kb.cell 3 (v := .int .i64 xa) rfl
                  have lr3 := fun (w' : World) (h : Ext U w') => h.cellk lc3
                  have sU := fun (w' : World) (h : Ext U w') => hXU.trans h
                  go_wp2_with fail
                  refine wp_region_noPanic ?_
                  refine tr_start (.y 0 (.y 1 (.y 2 (.y 3 (.y 4 (.y 5 (.y 6 (.y 7 (.y 8 (.y 9 (.y 10 (.y 11 (.y 12 (.y 13 (.y 14 (.e 15 (.y 16 .nil))))))))))))))))) (fun w' => Ext U w') (by kernel_rfl) (by as_aux_lemma => kernel_rfl) (fun _ _ _ _ _ h => h) (by (repeat (first | assumption | exact Ext.refl _ | refine Ext.drew ?_ | refine Ext.alloc ?_ _ | refine Ext.drewN ?_ _ | refine Ext.trans ?_ (by assumption)))) ?_
                  iterate 15 (first | (refine tr_off (a' := ?_) rfl rfl (by rfl) ?_ ?_; rotate_left 1; (· simp only [Act.put, List.setIfInBounds_toArray, List.set_cons_zero, List.set_cons_succ]; rfl)) | (refine tr_y (v := ?_) (a' := ?_) rfl rfl (by rfl) (fun w' hw' => ?_) ?_ ?_; rotate_left 2; (· go_simp; with_reducible rfl); (· simp only [Act.put, List.setIfInBounds_toArray, List.set_cons_zero, List.set_cons_succ]; rfl)))
                  have hYd : Ext U U.drew := by (repeat (first | assumption | exact Ext.refl _ | refine Ext.drew ?_ | refine Ext.alloc ?_ _ | refine Ext.drewN ?_ _ | refine Ext.trans ?_ (by assumption)))
                  generalize U.drew = wd at hYd ⊢
                  have hSl := rules_new wd [⟨ym, xa⟩, ⟨⟨#[97, 98]⟩, xb⟩, ⟨⟨#[]⟩, 3⟩]
                  refine tr_value (v := ?_) (w1 := ?_) (a' := ?_) rfl rfl (by rfl) ?_ ?_ ?_ ?_
                  rotate_left 3
                  · go_simp; refine ⟨?_, ?_⟩ <;> with_reducible rfl
                  · exact hYd.alloc _
                  · simp only [Act.put, List.setIfInBounds_toArray, List.set_cons_zero, List.set_cons_succ]; rfl
                  iterate 1 (first | (refine tr_off (a' := ?_) rfl rfl (by rfl) ?_ ?_; rotate_left 1; (· simp only [Act.put, List.setIfInBounds_toArray, List.set_cons_zero, List.set_cons_succ]; rfl)) | (refine tr_y (v := ?_) (a' := ?_) rfl rfl (by rfl) (fun w' hw' => ?_) ?_ ?_; rotate_left 2; (· go_simp; with_reducible rfl); (· simp only [Act.put, List.setIfInBounds_toArray, List.set_cons_zero, List.set_cons_succ]; rfl)))
                  refine tr_end (NoPanic.normal ?_)
                  obtain ⟨T, hT, hET, -⟩ := box1 wd (cellsR [⟨ym, xa⟩, ⟨⟨#[97, 98]⟩, xb⟩, ⟨⟨#[]⟩, 3⟩]) 40
                  rw [← hT] at hSl
                  have hYT := hYd.trans hET
                  have eT : wd.alloc (.cells #[.string ym, .int .i64 xa, .string ⟨#[97, 98]⟩, .int .i64 xb, .string ⟨#[]⟩, .int .i64 3] 40) = T := hT.symm
                  rw [eT]
                  generalize wd.heap.size = gr at hSl ⊢
                  clear hT eT hET hYd
                  have h1 := fun w' => grants_walk xa ym bb1 xb xb y3 bb2 xa x1 y2 w' (by omega) (by omega) (by omega) fa fb f1
                  have h2 := fun w' => less_walk xa ym bb1 xb xb y3 bb2 xa 1 ⟨#[97, 98, 99]⟩ xb w' fb rfl
                  have h3 := fun w' => order_walk xa ym bb1 xb xb y3 bb2 xa xa ym bb1 xb 1 ⟨#[97, 98]⟩ w' (by omega) fa fb fa rfl
                  have hrw : ∀ x ∈ ([⟨ym, xa⟩, ⟨⟨#[97, 98]⟩, xb⟩, ⟨⟨#[]⟩, 3⟩] : List Rule), (Lit.int .i64 x.r).wf = true := fun x hx => by
                    simp only [List.mem_cons, List.not_mem_nil, or_false] at hx
                    rcases hx with rfl | rfl | rfl
                    · exact fa
                    · exact fb
                    · decide
                  have h4 := fun w' (h : Ext T w') => rules_walk w' (some ⟨gr, 0, none⟩) 3 [⟨ym, xa⟩, ⟨⟨#[97, 98]⟩, xb⟩, ⟨⟨#[]⟩, 3⟩] (hSl.ext h) (Nat.le_refl _) (by show 3 ≤ _; decide) hrw xb y4 fb
                  have h5 := fun w' (h : Ext T w') => added_walk w' (some ⟨gr, 0, none⟩) 3 [⟨ym, xa⟩, ⟨⟨#[97, 98]⟩, xb⟩, ⟨⟨#[]⟩, 3⟩] (hSl.ext h) (Nat.le_refl _) (by show 3 ≤ _; decide) y2 xb a 3 ⟨#[97, 98, 99]⟩ (by omega)
                  simp only [List.length_cons, List.length_nil, Nat.reduceAdd, Nat.zero_add] at h4 h5
                  have sT := fun (w' : World) (h : Ext T w') => hYT.trans h
                  have sW := fun (w' : World) (h : Ext T w') => (hXU.trans hYT).trans h
                  clear hrw hSl sU
                  go_wp2_with fail
                  refine wp_region_noPanic ?_
                  refine tr_start (.y 0 (.y 1 (.y 2 (.y 3 (.y 4 (.y 5 (.y 6 (.y 7 (.y 8 (.y 9 (.y 10 (.y 11 (.y 12 (.y 13 (.y 14 (.y 15 (.y 16 (.y 17 (.y 18 (.e 19 (.y 20 (.y 21 (.y 22 (.y 23 (.y 24 (.y 25 (.y 26 (.y 27 (.e 28 (.y 29 (.y 30 (.y 31 (.y 32 (.y 33 (.y 34 (.e 35 (.y 36 (.y 37 (.y 38 (.y 39 (.y 40 (.y 41 (.y 42 (.y 43 (.y 44 (.y 45 (.y 46 (.y 47 (.y 48 (.y 49 (.y 50 (.y 51 (.y 52 (.e 53 (.y 54 (.y 55 (.y 56 (.y 57 (.y 58 (.y 59 (.y 60 (.y 61 (.y 62 (.y 63 (.y 64 (.y 65 (.y 66 (.y 67 (.y 68 (.y 69 (.y 70 (.y 71 (.e 72 (.y 73 (.y 74 .nil))))))))))))))))))))))))))))))))))))))))))))))))))))))))))))))))))))))))))) (fun w' => Ext T w') (by kernel_rfl) (by as_aux_lemma => kernel_rfl) (fun _ _ _ _ _ h => h) (by (repeat (first | assumption | exact Ext.refl _ | refine Ext.drew ?_ | refine Ext.alloc ?_ _ | refine Ext.drewN ?_ _ | refine Ext.trans ?_ (by assumption)))) ?_
                  iterate 19 (first | (refine tr_off (a' := ?_) rfl rfl (by rfl) ?_ ?_; rotate_left 1; (· simp only [Act.put, List.setIfInBounds_toArray, List.set_cons_zero, List.set_cons_succ]; rfl)) | (refine tr_y (v := ?_) (a' := ?_) rfl rfl (by rfl) (fun w' hw' => ?_) ?_ ?_; rotate_left 2; (· go_simp; with_reducible rfl); (· simp only [Act.put, List.setIfInBounds_toArray, List.set_cons_zero, List.set_cons_succ]; rfl)))
                  have hYd : Ext T T.drew := by (repeat (first | assumption | exact Ext.refl _ | refine Ext.drew ?_ | refine Ext.alloc ?_ _ | refine Ext.drewN ?_ _ | refine Ext.trans ?_ (by assumption)))
                  generalize T.drew = wd at hYd ⊢
                  refine tr_call (args := ?_) rfl Tryd.func5 (by kernel_rfl) rfl (by rfl) rfl rfl ?_ ?_
                  rotate_left 1
                  · go_simp; rfl
                  (with_reducible refine (h1 _).mono ?_)
                  rintro e v1 ⟨rfl, hE1⟩
                  refine ⟨_, _, rfl, hYd.trans hE1, (by simp only [Act.put, List.setIfInBounds_toArray, List.set_cons_zero, List.set_cons_succ]; rfl), ?_⟩
                  iterate 8 (first | (refine tr_off (a' := ?_) rfl rfl (by rfl) ?_ ?_; rotate_left 1; (· simp only [Act.put, List.setIfInBounds_toArray, List.set_cons_zero, List.set_cons_succ]; rfl)) | (refine tr_y (v := ?_) (a' := ?_) rfl rfl (by rfl) (fun w' hw' => ?_) ?_ ?_; rotate_left 2; (· go_simp; with_reducible rfl); (· simp only [Act.put, List.setIfInBounds_toArray, List.set_cons_zero, List.set_cons_succ]; rfl)))
                  have hY1 := hYd.trans hE1
                  refine tr_call (args := ?_) rfl Tryd.func6 (by kernel_rfl) rfl (by rfl) rfl rfl ?_ ?_
                  rotate_left 1
                  · go_simp; rfl
                  (with_reducible refine (h2 _).mono ?_)
                  rintro e v2 ⟨rfl, hE2⟩
                  refine ⟨_, _, rfl, hY1.trans hE2, (by simp only [Act.put, List.setIfInBounds_toArray, List.set_cons_zero, List.set_cons_succ]; rfl), ?_⟩
                  iterate 6 (first | (refine tr_off (a' := ?_) rfl rfl (by rfl) ?_ ?_; rotate_left 1; (· simp only [Act.put, List.setIfInBounds_toArray, List.set_cons_zero, List.set_cons_succ]; rfl)) | (refine tr_y (v := ?_) (a' := ?_) rfl rfl (by rfl) (fun w' hw' => ?_) ?_ ?_; rotate_left 2; (· go_simp; with_reducible rfl); (· simp only [Act.put, List.setIfInBounds_toArray, List.set_cons_zero, List.set_cons_succ]; rfl)))
                  have hY2 := hY1.trans hE2
                  refine tr_call (args := ?_) rfl Tryd.func3 (by kernel_rfl) rfl (by rfl) rfl rfl ?_ ?_
                  rotate_left 1
                  · go_simp; rfl
                  (with_reducible refine (h3 _).mono ?_)
                  rintro e v3 ⟨rfl, hE3⟩
                  refine ⟨_, _, rfl, hY2.trans hE3, (by simp only [Act.put, List.setIfInBounds_toArray, List.set_cons_zero, List.set_cons_succ]; rfl), ?_⟩
                  iterate 17 (first | (refine tr_off (a' := ?_) rfl rfl (by rfl) ?_ ?_; rotate_left 1; (· simp only [Act.put, List.setIfInBounds_toArray, List.set_cons_zero, List.set_cons_succ]; rfl)) | (refine tr_y (v := ?_) (a' := ?_) rfl rfl (by rfl) (fun w' hw' => ?_) ?_ ?_; rotate_left 2; (· go_simp; with_reducible rfl); (· simp only [Act.put, List.setIfInBounds_toArray, List.set_cons_zero, List.set_cons_succ]; rfl)))
                  have hY3 := hY2.trans hE3
                  refine tr_call (args := ?_) rfl Tryd.func8 (by kernel_rfl) rfl (by rfl) rfl rfl ?_ ?_
                  rotate_left 1
                  · go_simp; rfl
                  (with_reducible refine (h4 _ hY3).mono ?_)
                  rintro e v4 ⟨rfl, hE4⟩
                  refine ⟨_, _, rfl, hY3.trans hE4, (by simp only [Act.put, List.setIfInBounds_toArray, List.set_cons_zero, List.set_cons_succ]; rfl), ?_⟩
                  iterate 18 (first | (refine tr_off (a' := ?_) rfl rfl (by rfl) ?_ ?_; rotate_left 1; (· simp only [Act.put, List.setIfInBounds_toArray, List.set_cons_zero, List.set_cons_succ]; rfl)) | (refine tr_y (v := ?_) (a' := ?_) rfl rfl (by rfl) (fun w' hw' => ?_) ?_ ?_; rotate_left 2; (· go_simp; with_reducible rfl); (· simp only [Act.put, List.setIfInBounds_toArray, List.set_cons_zero, List.set_cons_succ]; rfl)))
                  have hY4 := hY3.trans hE4
                  refine tr_call (args := ?_) rfl Tryd.func7 (by kernel_rfl) rfl (by rfl) rfl rfl ?_ ?_
                  rotate_left 1
                  · go_simp; rfl
                  (with_reducible refine (h5 _ hY4).mono ?_)
                  rintro e v5 ⟨rfl, hE5⟩
                  refine ⟨_, _, rfl, hY4.trans hE5, (by simp only [Act.put, List.setIfInBounds_toArray, List.set_cons_zero, List.set_cons_succ]; rfl), ?_⟩
                  iterate 2 (first | (refine tr_off (a' := ?_) rfl rfl (by rfl) ?_ ?_; rotate_left 1; (· simp only [Act.put, List.setIfInBounds_toArray, List.set_cons_zero, List.set_cons_succ]; rfl)) | (refine tr_y (v := ?_) (a' := ?_) rfl rfl (by rfl) (fun w' hw' => ?_) ?_ ?_; rotate_left 2; (· go_simp; with_reducible rfl); (· simp only [Act.put, List.setIfInBounds_toArray, List.set_cons_zero, List.set_cons_succ]; rfl)))
                  have hX9 := (hXU.trans hYT).trans (hY4.trans hE5)
                  refine tr_end (NoPanic.normal ?_)
                  clear w1 w2 w3 w4 q1 q2 h1 h2 h3 h4 h5
                  go_wp2_with fail
                  go_roundw
                  case rel => first | exact ⟨m + 1, by omega, by go_num, hX9⟩ | ((repeat apply Exists.intro); exact ⟨⟨m + 1, by omega, by go_num, hX9⟩, rfl⟩)
                  case measure => simp [intOf]; omega
                · obtain rfl : m = 8 := by omega
                  go_wp2_with fail
                  go_roundw
                  case rel => exact ⟨b + 1, by omega, by go_num, hwm⟩
                  case measure => simp [intOf]; omega
            · obtain rfl : b = 12 := by omega
              go_wp2_with fail
              go_roundw
              case rel => exact ⟨a + 1, by omega, by go_num, hwb⟩
              case measure => simp [intOf]; omega
        · obtain rfl : a = 12 := by omega
          have hmk8 : ∀ w : World, (Instr.makeSlice 38 (.int .i64 8) (.int .i64 8)).run Tryd.prog w = .ok (.slice (some ⟨w.heap.size, 0, none⟩) 8 8) (w.alloc (.cells (cellsR (List.replicate 8 ⟨⟨#[]⟩, 0⟩)) 40)) := fun _ => by as_aux_lemma => kernel_rfl
          have hmk9 : ∀ w : World, (Instr.makeSlice 38 (.int .i64 9) (.int .i64 9)).run Tryd.prog w = .ok (.slice (some ⟨w.heap.size, 0, none⟩) 9 9) (w.alloc (.cells (cellsR (List.replicate 9 ⟨⟨#[]⟩, 0⟩)) 40)) := fun _ => by as_aux_lemma => kernel_rfl
          clear hb hp
          go_upto_region 23 with fail
          have hSl := rules_new wr rulesK
          obtain ⟨V, hV, hEV, -⟩ := box1 wr (cellsR rulesK) 40
          rw [← hV] at hSl
          have hXV := hXW.trans (hwa.trans hEV)
          have eV : wr.alloc (.cells #[.string ⟨#[111, 112, 101, 110]⟩, .int .i64 127, .string ⟨#[111, 112, 101, 110, 46, 108, 111, 103]⟩, .int .i64 2] 40) = V := hV.symm
          rw [eV]
          generalize wr.heap.size = gr at hSl ⊢
          clear hV eV hEV hwa hXW
          have h1 := fun (w' : World) (h : Ext V w') => allowed_any w' (some ⟨gr, 0, none⟩) 2 rulesK (hSl.ext h) (by decide) (by decide) (by decide) 1 ⟨#[111, 112, 101, 110]⟩
          have h2 := fun (w' : World) (h : Ext V w') => allowed_any w' (some ⟨gr, 0, none⟩) 2 rulesK (hSl.ext h) (by decide) (by decide) (by decide) 1 ⟨#[111, 112, 101, 110, 46, 108, 111, 103, 46, 120]⟩
          have h3 := fun (w' : World) (h : Ext V w') => allowed_any w' (some ⟨gr, 0, none⟩) 2 rulesK (hSl.ext h) (by decide) (by decide) (by decide) 1 ⟨#[115, 104, 117, 116]⟩
          have h8 := fun (w' : World) => rules_walk (w'.alloc (.cells (cellsR (List.replicate 8 ⟨⟨#[]⟩, 0⟩)) 40)) (some ⟨w'.heap.size, 0, none⟩) 8 (List.replicate 8 ⟨⟨#[]⟩, 0⟩) (rules_new w' _) (by simp) (by simp) (fun x hx => by rw [List.eq_of_mem_replicate hx]; decide) 1 ⟨#[97]⟩ (by decide)
          have h9 := fun (w' : World) => rules_walk (w'.alloc (.cells (cellsR (List.replicate 9 ⟨⟨#[]⟩, 0⟩)) 40)) (some ⟨w'.heap.size, 0, none⟩) 9 (List.replicate 9 ⟨⟨#[]⟩, 0⟩) (rules_new w' _) (by simp) (by simp) (fun x hx => by rw [List.eq_of_mem_replicate hx]; decide) 1 ⟨#[97]⟩ (by decide)
          simp only [al1, show rulesK.length = 2 from rfl] at h1
          simp only [al2, show rulesK.length = 2 from rfl] at h2
          simp only [al3, show rulesK.length = 2 from rfl] at h3
          simp only [List.length_replicate] at h8 h9
          generalize cellsR (List.replicate 8 ⟨⟨#[]⟩, 0⟩) = c8 at hmk8 h8
          generalize cellsR (List.replicate 9 ⟨⟨#[]⟩, 0⟩) = c9 at hmk9 h9
          have hY0 : Ext V V := Ext.refl V
          clear hSl
          go_wp2_with (first | (go_at_call 24; (with_reducible refine (h1 _ hY0).mono ?_); rintro e v1 ⟨rfl, hE1⟩; have hY1 := hY0.trans hE1) | (go_at_call 24; (with_reducible refine (h2 _ hY1).mono ?_); rintro e v2 ⟨rfl, hE2⟩; have hY2 := hY1.trans hE2) | (go_at_call 24; (with_reducible refine (h3 _ hY2).mono ?_); rintro e v3 ⟨rfl, hE3⟩; have hY3 := hY2.trans hE3) | (go_at_call 8; (with_reducible refine (h8 _).mono ?_); rintro e v4 ⟨rfl, hE4⟩; have hY4 := (hY3.alloc _).trans hE4) | (go_at_call 8; (with_reducible refine (h9 _).mono ?_); rintro e v5 ⟨rfl, hE5⟩; have hY5 := (hY4.alloc _).trans hE5) | (go_at_call 10; (with_reducible refine (hwo _).mono ?_); rintro e v6 ⟨rfl, hE6⟩; have hY6 := hY5.trans hE6))
          go_ret
          exact ⟨rfl, hXV.trans hY6⟩
end Go.Proofs.YtmdjndhebgnjoaaDoor
