/- RightOrder: the walk, second part. -/
import Derived.Test.YtmdjndhebgnjoaaDoorWorks
import Derived.Test.YtmdjndhebgnjoaaDoorRegion
import Derived.Test.YtmdjndhebgnjoaaDoorRightPure
namespace Go.Proofs.YtmdjndhebgnjoaaDoor
set_option linter.unusedVariables false
set_option linter.unusedSimpArgs false
open Go.RowKit Go.Shelf
attribute [local go_sem] run_mx4
set_option maxHeartbeats 1000000 in
set_option maxRecDepth 100000 in
theorem order_ttf0 (ar : Int) (ap : ByteArray) (ax : Bool) (au : Int) (br : Int) (bp : ByteArray) (bx : Bool) (bu : Int) (cr : Int) (cp : ByteArray) (cx : Bool) (cu : Int) (q : Int) (s : ByteArray) (w : World) (hm : ¬ 4096 < mx4 (ap.size : Int) (bp.size : Int) (cp.size : Int) (s.size : Int)) (hsz : ap.size ≤ 9223372036854775807) (hk : checkG ar ap ax au = 0) (haa : narrowG ar ap ax au ar ap ax au = true) (hab : narrowG ar ap ax au br bp bx bu = true) (hbc : narrowG br bp bx bu cr cp cx cu = true) (hac : narrowG ar ap ax au cr cp cx cu = true) (hba : narrowG br bp bx bu ar ap ax au = false) : Calls Tryd.prog 3 #[.agg #[.int .i64 ar, .string ap, .bool ax, .int .i64 au], .agg #[.int .i64 br, .string bp, .bool bx, .int .i64 bu], .agg #[.int .i64 cr, .string cp, .bool cx, .int .i64 cu], .int .i64 q, .string s] w fun e w' => e = .returned (.bool true) ∧ Ext w w' := by
  obtain ⟨W, hW, hE, b1, b2, b3⟩ := box3 w #[.int .i64 ar, .string ap, .bool ax, .int .i64 au] #[.int .i64 br, .string bp, .bool bx, .int .i64 bu] #[.int .i64 cr, .string cp, .bool cx, .int .i64 cu] 23 23 23
  have ac0 := b1 0 _ rfl
  have ak0 := fun (w' : World) (h : Ext W w') => h.cellk ac0
  have ac1 := b1 1 _ rfl
  have ak1 := fun (w' : World) (h : Ext W w') => h.cellk ac1
  have ac2 := b1 2 _ rfl
  have ak2 := fun (w' : World) (h : Ext W w') => h.cellk ac2
  have ac3 := b1 3 _ rfl
  have ak3 := fun (w' : World) (h : Ext W w') => h.cellk ac3
  have bc0 := b2 0 _ rfl
  have bk0 := fun (w' : World) (h : Ext W w') => h.cellk bc0
  have bc1 := b2 1 _ rfl
  have bk1 := fun (w' : World) (h : Ext W w') => h.cellk bc1
  have bc2 := b2 2 _ rfl
  have bk2 := fun (w' : World) (h : Ext W w') => h.cellk bc2
  have bc3 := b2 3 _ rfl
  have bk3 := fun (w' : World) (h : Ext W w') => h.cellk bc3
  have cc0 := b3 0 _ rfl
  have ck0 := fun (w' : World) (h : Ext W w') => h.cellk cc0
  have cc1 := b3 1 _ rfl
  have ck1 := fun (w' : World) (h : Ext W w') => h.cellk cc1
  have cc2 := b3 2 _ rfl
  have ck2 := fun (w' : World) (h : Ext W w') => h.cellk cc2
  have cc3 := b3 3 _ rfl
  have ck3 := fun (w' : World) (h : Ext W w') => h.cellk cc3
  have hX0 : Ext W W := Ext.refl W
  clear b1 b2 b3
  go_enter Tryd.func3, Tryd.ntmps3
  go_upto_region 1 with fail
  rw [← hW]
  clear hW
  go_wp2_with (first | (go_at_call 11; (with_reducible refine (check_val ar ap ax au 0 hk hsz _).mono ?_); rintro e w' ⟨rfl, hb⟩; have hX : Ext W w' := (by (repeat (first | assumption | exact Ext.refl _ | refine Ext.drew ?_ | refine Ext.alloc ?_ _ | refine Ext.drewN ?_ _ | refine Ext.trans ?_ (by assumption))))) | (go_at_call 12; (with_reducible refine (narrow_val ar ap ax au ar ap ax au true haa _).mono ?_); rintro e w' ⟨rfl, hb⟩; have hX : Ext W w' := (by (repeat (first | assumption | exact Ext.refl _ | refine Ext.drew ?_ | refine Ext.alloc ?_ _ | refine Ext.drewN ?_ _ | refine Ext.trans ?_ (by assumption))))) | (go_at_call 12; (with_reducible refine (narrow_val ar ap ax au br bp bx bu true hab _).mono ?_); rintro e w' ⟨rfl, hb⟩; have hX : Ext W w' := (by (repeat (first | assumption | exact Ext.refl _ | refine Ext.drew ?_ | refine Ext.alloc ?_ _ | refine Ext.drewN ?_ _ | refine Ext.trans ?_ (by assumption))))) | (go_at_call 12; (with_reducible refine (narrow_val br bp bx bu cr cp cx cu true hbc _).mono ?_); rintro e w' ⟨rfl, hb⟩; have hX : Ext W w' := (by (repeat (first | assumption | exact Ext.refl _ | refine Ext.drew ?_ | refine Ext.alloc ?_ _ | refine Ext.drewN ?_ _ | refine Ext.trans ?_ (by assumption))))) | (go_at_call 12; (with_reducible refine (narrow_val ar ap ax au cr cp cx cu true hac _).mono ?_); rintro e w' ⟨rfl, hb⟩; have hX : Ext W w' := (by (repeat (first | assumption | exact Ext.refl _ | refine Ext.drew ?_ | refine Ext.alloc ?_ _ | refine Ext.drewN ?_ _ | refine Ext.trans ?_ (by assumption))))) | (go_at_call 12; (with_reducible refine (narrow_val br bp bx bu ar ap ax au false hba _).mono ?_); rintro e w' ⟨rfl, hb⟩; have hX : Ext W w' := (by (repeat (first | assumption | exact Ext.refl _ | refine Ext.drew ?_ | refine Ext.alloc ?_ _ | refine Ext.drewN ?_ _ | refine Ext.trans ?_ (by assumption))))) | (go_at_call 10; (with_reducible refine (works_any _).mono ?_); rintro e w' ⟨rfl, hb⟩; have hX : Ext W w' := (by (repeat (first | assumption | exact Ext.refl _ | refine Ext.drew ?_ | refine Ext.alloc ?_ _ | refine Ext.drewN ?_ _ | refine Ext.trans ?_ (by assumption))))))
  all_goals
    refine wp_region_noPanic ?_
    refine rg_start [(true, 0), (true, 1), (false, 2), (true, 3), (true, 4), (true, 5), (false, 6), (true, 7), (true, 8), (true, 9), (true, 10), (true, 11), (true, 12), (true, 13), (true, 14), (true, 15), (true, 16), (true, 17), (true, 18)] (fun w' => Ext W w') (by kernel_rfl) (by kernel_rfl) (fun _ _ _ _ _ h => h) (by (repeat (first | assumption | exact Ext.refl _ | refine Ext.drew ?_ | refine Ext.alloc ?_ _ | refine Ext.drewN ?_ _ | refine Ext.trans ?_ (by assumption)))) ?_
    iterate 2
      first
        | (refine rg_off (a' := ?_) rfl rfl (by rfl) ?_ ?_; rotate_left 1; (· simp only [Act.put, List.setIfInBounds_toArray, List.set_cons_zero, List.set_cons_succ]; rfl))
        | (refine rg_y (v := ?_) (a' := ?_) rfl rfl (by rfl) (fun w' hw' => ?_) ?_ ?_; rotate_left 2; (· go_simp; with_reducible rfl); (· simp only [Act.put, List.setIfInBounds_toArray, List.set_cons_zero, List.set_cons_succ]; rfl))
    refine rg_call (args := ?_) rfl Tryd.func12 (by kernel_rfl) rfl (by rfl) rfl rfl ?_ ?_
    rotate_left 1
    · go_simp; rfl
    first | (with_reducible refine (narrow_val ar ap ax au ar ap ax au true haa _).mono ?_) | (with_reducible refine (narrow_val ar ap ax au br bp bx bu true hab _).mono ?_) | (with_reducible refine (narrow_val br bp bx bu cr cp cx cu true hbc _).mono ?_) | (with_reducible refine (narrow_val ar ap ax au cr cp cx cu true hac _).mono ?_) | (with_reducible refine (narrow_val br bp bx bu ar ap ax au false hba _).mono ?_)
    rintro e w' ⟨rfl, hb⟩
    refine ⟨_, _, rfl, by (repeat (first | assumption | exact Ext.refl _ | refine Ext.drew ?_ | refine Ext.alloc ?_ _ | refine Ext.drewN ?_ _ | refine Ext.trans ?_ (by assumption))), (by simp only [Act.put, List.setIfInBounds_toArray, List.set_cons_zero, List.set_cons_succ]; rfl), ?_⟩
    iterate 3
      first
        | (refine rg_off (a' := ?_) rfl rfl (by rfl) ?_ ?_; rotate_left 1; (· simp only [Act.put, List.setIfInBounds_toArray, List.set_cons_zero, List.set_cons_succ]; rfl))
        | (refine rg_y (v := ?_) (a' := ?_) rfl rfl (by rfl) (fun w' hw' => ?_) ?_ ?_; rotate_left 2; (· go_simp; with_reducible rfl); (· simp only [Act.put, List.setIfInBounds_toArray, List.set_cons_zero, List.set_cons_succ]; rfl))
    refine rg_call (args := ?_) rfl Tryd.func12 (by kernel_rfl) rfl (by rfl) rfl rfl ?_ ?_
    rotate_left 1
    · go_simp; rfl
    first | (with_reducible refine (narrow_val ar ap ax au ar ap ax au true haa _).mono ?_) | (with_reducible refine (narrow_val ar ap ax au br bp bx bu true hab _).mono ?_) | (with_reducible refine (narrow_val br bp bx bu cr cp cx cu true hbc _).mono ?_) | (with_reducible refine (narrow_val ar ap ax au cr cp cx cu true hac _).mono ?_) | (with_reducible refine (narrow_val br bp bx bu ar ap ax au false hba _).mono ?_)
    rintro e w' ⟨rfl, hb⟩
    refine ⟨_, _, rfl, by (repeat (first | assumption | exact Ext.refl _ | refine Ext.drew ?_ | refine Ext.alloc ?_ _ | refine Ext.drewN ?_ _ | refine Ext.trans ?_ (by assumption))), (by simp only [Act.put, List.setIfInBounds_toArray, List.set_cons_zero, List.set_cons_succ]; rfl), ?_⟩
    iterate 12
      first
        | (refine rg_off (a' := ?_) rfl rfl (by rfl) ?_ ?_; rotate_left 1; (· simp only [Act.put, List.setIfInBounds_toArray, List.set_cons_zero, List.set_cons_succ]; rfl))
        | (refine rg_y (v := ?_) (a' := ?_) rfl rfl (by rfl) (fun w' hw' => ?_) ?_ ?_; rotate_left 2; (· go_simp; with_reducible rfl); (· simp only [Act.put, List.setIfInBounds_toArray, List.set_cons_zero, List.set_cons_succ]; rfl))
    refine rg_end (NoPanic.normal ?_)
    go_wp2_with (first | (go_at_call 11; (with_reducible refine (check_val ar ap ax au 0 hk hsz _).mono ?_); rintro e w' ⟨rfl, hb⟩; have hX : Ext W w' := (by (repeat (first | assumption | exact Ext.refl _ | refine Ext.drew ?_ | refine Ext.alloc ?_ _ | refine Ext.drewN ?_ _ | refine Ext.trans ?_ (by assumption))))) | (go_at_call 12; (with_reducible refine (narrow_val ar ap ax au ar ap ax au true haa _).mono ?_); rintro e w' ⟨rfl, hb⟩; have hX : Ext W w' := (by (repeat (first | assumption | exact Ext.refl _ | refine Ext.drew ?_ | refine Ext.alloc ?_ _ | refine Ext.drewN ?_ _ | refine Ext.trans ?_ (by assumption))))) | (go_at_call 12; (with_reducible refine (narrow_val ar ap ax au br bp bx bu true hab _).mono ?_); rintro e w' ⟨rfl, hb⟩; have hX : Ext W w' := (by (repeat (first | assumption | exact Ext.refl _ | refine Ext.drew ?_ | refine Ext.alloc ?_ _ | refine Ext.drewN ?_ _ | refine Ext.trans ?_ (by assumption))))) | (go_at_call 12; (with_reducible refine (narrow_val br bp bx bu cr cp cx cu true hbc _).mono ?_); rintro e w' ⟨rfl, hb⟩; have hX : Ext W w' := (by (repeat (first | assumption | exact Ext.refl _ | refine Ext.drew ?_ | refine Ext.alloc ?_ _ | refine Ext.drewN ?_ _ | refine Ext.trans ?_ (by assumption))))) | (go_at_call 12; (with_reducible refine (narrow_val ar ap ax au cr cp cx cu true hac _).mono ?_); rintro e w' ⟨rfl, hb⟩; have hX : Ext W w' := (by (repeat (first | assumption | exact Ext.refl _ | refine Ext.drew ?_ | refine Ext.alloc ?_ _ | refine Ext.drewN ?_ _ | refine Ext.trans ?_ (by assumption))))) | (go_at_call 12; (with_reducible refine (narrow_val br bp bx bu ar ap ax au false hba _).mono ?_); rintro e w' ⟨rfl, hb⟩; have hX : Ext W w' := (by (repeat (first | assumption | exact Ext.refl _ | refine Ext.drew ?_ | refine Ext.alloc ?_ _ | refine Ext.drewN ?_ _ | refine Ext.trans ?_ (by assumption))))) | (go_at_call 10; (with_reducible refine (works_any _).mono ?_); rintro e w' ⟨rfl, hb⟩; have hX : Ext W w' := (by (repeat (first | assumption | exact Ext.refl _ | refine Ext.drew ?_ | refine Ext.alloc ?_ _ | refine Ext.drewN ?_ _ | refine Ext.trans ?_ (by assumption))))))
    go_ret
    exact ⟨rfl, by (repeat (first | assumption | exact Ext.refl _ | refine Ext.drew ?_ | refine Ext.alloc ?_ _ | refine Ext.drewN ?_ _ | refine Ext.trans ?_ (by assumption)))⟩
set_option maxHeartbeats 1000000 in
set_option maxRecDepth 100000 in
theorem order_ttf1 (ar : Int) (ap : ByteArray) (ax : Bool) (au : Int) (br : Int) (bp : ByteArray) (bx : Bool) (bu : Int) (cr : Int) (cp : ByteArray) (cx : Bool) (cu : Int) (q : Int) (s : ByteArray) (w : World) (hm : ¬ 4096 < mx4 (ap.size : Int) (bp.size : Int) (cp.size : Int) (s.size : Int)) (hsz : ap.size ≤ 9223372036854775807) (k : Int) (hk : checkG ar ap ax au = k) (hk0 : (k == 0) = false) (hab : narrowG ar ap ax au br bp bx bu = true) (hbc : narrowG br bp bx bu cr cp cx cu = true) (hac : narrowG ar ap ax au cr cp cx cu = true) (hba : narrowG br bp bx bu ar ap ax au = false) : Calls Tryd.prog 3 #[.agg #[.int .i64 ar, .string ap, .bool ax, .int .i64 au], .agg #[.int .i64 br, .string bp, .bool bx, .int .i64 bu], .agg #[.int .i64 cr, .string cp, .bool cx, .int .i64 cu], .int .i64 q, .string s] w fun e w' => e = .returned (.bool true) ∧ Ext w w' := by
  obtain ⟨W, hW, hE, b1, b2, b3⟩ := box3 w #[.int .i64 ar, .string ap, .bool ax, .int .i64 au] #[.int .i64 br, .string bp, .bool bx, .int .i64 bu] #[.int .i64 cr, .string cp, .bool cx, .int .i64 cu] 23 23 23
  have ac0 := b1 0 _ rfl
  have ak0 := fun (w' : World) (h : Ext W w') => h.cellk ac0
  have ac1 := b1 1 _ rfl
  have ak1 := fun (w' : World) (h : Ext W w') => h.cellk ac1
  have ac2 := b1 2 _ rfl
  have ak2 := fun (w' : World) (h : Ext W w') => h.cellk ac2
  have ac3 := b1 3 _ rfl
  have ak3 := fun (w' : World) (h : Ext W w') => h.cellk ac3
  have bc0 := b2 0 _ rfl
  have bk0 := fun (w' : World) (h : Ext W w') => h.cellk bc0
  have bc1 := b2 1 _ rfl
  have bk1 := fun (w' : World) (h : Ext W w') => h.cellk bc1
  have bc2 := b2 2 _ rfl
  have bk2 := fun (w' : World) (h : Ext W w') => h.cellk bc2
  have bc3 := b2 3 _ rfl
  have bk3 := fun (w' : World) (h : Ext W w') => h.cellk bc3
  have cc0 := b3 0 _ rfl
  have ck0 := fun (w' : World) (h : Ext W w') => h.cellk cc0
  have cc1 := b3 1 _ rfl
  have ck1 := fun (w' : World) (h : Ext W w') => h.cellk cc1
  have cc2 := b3 2 _ rfl
  have ck2 := fun (w' : World) (h : Ext W w') => h.cellk cc2
  have cc3 := b3 3 _ rfl
  have ck3 := fun (w' : World) (h : Ext W w') => h.cellk cc3
  have hX0 : Ext W W := Ext.refl W
  clear b1 b2 b3
  go_enter Tryd.func3, Tryd.ntmps3
  go_upto_region 1 with fail
  rw [← hW]
  clear hW
  go_wp2_with (first | (go_at_call 11; (with_reducible refine (check_val ar ap ax au k hk hsz _).mono ?_); rintro e w' ⟨rfl, hb⟩; have hX : Ext W w' := (by (repeat (first | assumption | exact Ext.refl _ | refine Ext.drew ?_ | refine Ext.alloc ?_ _ | refine Ext.drewN ?_ _ | refine Ext.trans ?_ (by assumption))))) | (go_at_call 12; (with_reducible refine (narrow_val ar ap ax au br bp bx bu true hab _).mono ?_); rintro e w' ⟨rfl, hb⟩; have hX : Ext W w' := (by (repeat (first | assumption | exact Ext.refl _ | refine Ext.drew ?_ | refine Ext.alloc ?_ _ | refine Ext.drewN ?_ _ | refine Ext.trans ?_ (by assumption))))) | (go_at_call 12; (with_reducible refine (narrow_val br bp bx bu cr cp cx cu true hbc _).mono ?_); rintro e w' ⟨rfl, hb⟩; have hX : Ext W w' := (by (repeat (first | assumption | exact Ext.refl _ | refine Ext.drew ?_ | refine Ext.alloc ?_ _ | refine Ext.drewN ?_ _ | refine Ext.trans ?_ (by assumption))))) | (go_at_call 12; (with_reducible refine (narrow_val ar ap ax au cr cp cx cu true hac _).mono ?_); rintro e w' ⟨rfl, hb⟩; have hX : Ext W w' := (by (repeat (first | assumption | exact Ext.refl _ | refine Ext.drew ?_ | refine Ext.alloc ?_ _ | refine Ext.drewN ?_ _ | refine Ext.trans ?_ (by assumption))))) | (go_at_call 12; (with_reducible refine (narrow_val br bp bx bu ar ap ax au false hba _).mono ?_); rintro e w' ⟨rfl, hb⟩; have hX : Ext W w' := (by (repeat (first | assumption | exact Ext.refl _ | refine Ext.drew ?_ | refine Ext.alloc ?_ _ | refine Ext.drewN ?_ _ | refine Ext.trans ?_ (by assumption))))) | (go_at_call 10; (with_reducible refine (works_any _).mono ?_); rintro e w' ⟨rfl, hb⟩; have hX : Ext W w' := (by (repeat (first | assumption | exact Ext.refl _ | refine Ext.drew ?_ | refine Ext.alloc ?_ _ | refine Ext.drewN ?_ _ | refine Ext.trans ?_ (by assumption))))))
  all_goals
    refine wp_region_noPanic ?_
    refine rg_start [(true, 0), (true, 1), (false, 2), (true, 3), (true, 4), (true, 5), (false, 6), (true, 7), (true, 8), (true, 9), (true, 10), (true, 11), (true, 12), (true, 13), (true, 14), (true, 15), (true, 16), (true, 17), (true, 18)] (fun w' => Ext W w') (by kernel_rfl) (by kernel_rfl) (fun _ _ _ _ _ h => h) (by (repeat (first | assumption | exact Ext.refl _ | refine Ext.drew ?_ | refine Ext.alloc ?_ _ | refine Ext.drewN ?_ _ | refine Ext.trans ?_ (by assumption)))) ?_
    iterate 2
      first
        | (refine rg_off (a' := ?_) rfl rfl (by rfl) ?_ ?_; rotate_left 1; (· simp only [Act.put, List.setIfInBounds_toArray, List.set_cons_zero, List.set_cons_succ]; rfl))
        | (refine rg_y (v := ?_) (a' := ?_) rfl rfl (by rfl) (fun w' hw' => ?_) ?_ ?_; rotate_left 2; (· go_simp; with_reducible rfl); (· simp only [Act.put, List.setIfInBounds_toArray, List.set_cons_zero, List.set_cons_succ]; rfl))
    refine rg_call (args := ?_) rfl Tryd.func12 (by kernel_rfl) rfl (by rfl) rfl rfl ?_ ?_
    rotate_left 1
    · go_simp; rfl
    first | (with_reducible refine (narrow_val ar ap ax au br bp bx bu true hab _).mono ?_) | (with_reducible refine (narrow_val br bp bx bu cr cp cx cu true hbc _).mono ?_) | (with_reducible refine (narrow_val ar ap ax au cr cp cx cu true hac _).mono ?_) | (with_reducible refine (narrow_val br bp bx bu ar ap ax au false hba _).mono ?_)
    rintro e w' ⟨rfl, hb⟩
    refine ⟨_, _, rfl, by (repeat (first | assumption | exact Ext.refl _ | refine Ext.drew ?_ | refine Ext.alloc ?_ _ | refine Ext.drewN ?_ _ | refine Ext.trans ?_ (by assumption))), (by simp only [Act.put, List.setIfInBounds_toArray, List.set_cons_zero, List.set_cons_succ]; rfl), ?_⟩
    iterate 3
      first
        | (refine rg_off (a' := ?_) rfl rfl (by rfl) ?_ ?_; rotate_left 1; (· simp only [Act.put, List.setIfInBounds_toArray, List.set_cons_zero, List.set_cons_succ]; rfl))
        | (refine rg_y (v := ?_) (a' := ?_) rfl rfl (by rfl) (fun w' hw' => ?_) ?_ ?_; rotate_left 2; (· go_simp; with_reducible rfl); (· simp only [Act.put, List.setIfInBounds_toArray, List.set_cons_zero, List.set_cons_succ]; rfl))
    refine rg_call (args := ?_) rfl Tryd.func12 (by kernel_rfl) rfl (by rfl) rfl rfl ?_ ?_
    rotate_left 1
    · go_simp; rfl
    first | (with_reducible refine (narrow_val ar ap ax au br bp bx bu true hab _).mono ?_) | (with_reducible refine (narrow_val br bp bx bu cr cp cx cu true hbc _).mono ?_) | (with_reducible refine (narrow_val ar ap ax au cr cp cx cu true hac _).mono ?_) | (with_reducible refine (narrow_val br bp bx bu ar ap ax au false hba _).mono ?_)
    rintro e w' ⟨rfl, hb⟩
    refine ⟨_, _, rfl, by (repeat (first | assumption | exact Ext.refl _ | refine Ext.drew ?_ | refine Ext.alloc ?_ _ | refine Ext.drewN ?_ _ | refine Ext.trans ?_ (by assumption))), (by simp only [Act.put, List.setIfInBounds_toArray, List.set_cons_zero, List.set_cons_succ]; rfl), ?_⟩
    iterate 12
      first
        | (refine rg_off (a' := ?_) rfl rfl (by rfl) ?_ ?_; rotate_left 1; (· simp only [Act.put, List.setIfInBounds_toArray, List.set_cons_zero, List.set_cons_succ]; rfl))
        | (refine rg_y (v := ?_) (a' := ?_) rfl rfl (by rfl) (fun w' hw' => ?_) ?_ ?_; rotate_left 2; (· go_simp; with_reducible rfl); (· simp only [Act.put, List.setIfInBounds_toArray, List.set_cons_zero, List.set_cons_succ]; rfl))
    refine rg_end (NoPanic.normal ?_)
    go_wp2_with (first | (go_at_call 11; (with_reducible refine (check_val ar ap ax au k hk hsz _).mono ?_); rintro e w' ⟨rfl, hb⟩; have hX : Ext W w' := (by (repeat (first | assumption | exact Ext.refl _ | refine Ext.drew ?_ | refine Ext.alloc ?_ _ | refine Ext.drewN ?_ _ | refine Ext.trans ?_ (by assumption))))) | (go_at_call 12; (with_reducible refine (narrow_val ar ap ax au br bp bx bu true hab _).mono ?_); rintro e w' ⟨rfl, hb⟩; have hX : Ext W w' := (by (repeat (first | assumption | exact Ext.refl _ | refine Ext.drew ?_ | refine Ext.alloc ?_ _ | refine Ext.drewN ?_ _ | refine Ext.trans ?_ (by assumption))))) | (go_at_call 12; (with_reducible refine (narrow_val br bp bx bu cr cp cx cu true hbc _).mono ?_); rintro e w' ⟨rfl, hb⟩; have hX : Ext W w' := (by (repeat (first | assumption | exact Ext.refl _ | refine Ext.drew ?_ | refine Ext.alloc ?_ _ | refine Ext.drewN ?_ _ | refine Ext.trans ?_ (by assumption))))) | (go_at_call 12; (with_reducible refine (narrow_val ar ap ax au cr cp cx cu true hac _).mono ?_); rintro e w' ⟨rfl, hb⟩; have hX : Ext W w' := (by (repeat (first | assumption | exact Ext.refl _ | refine Ext.drew ?_ | refine Ext.alloc ?_ _ | refine Ext.drewN ?_ _ | refine Ext.trans ?_ (by assumption))))) | (go_at_call 12; (with_reducible refine (narrow_val br bp bx bu ar ap ax au false hba _).mono ?_); rintro e w' ⟨rfl, hb⟩; have hX : Ext W w' := (by (repeat (first | assumption | exact Ext.refl _ | refine Ext.drew ?_ | refine Ext.alloc ?_ _ | refine Ext.drewN ?_ _ | refine Ext.trans ?_ (by assumption))))) | (go_at_call 10; (with_reducible refine (works_any _).mono ?_); rintro e w' ⟨rfl, hb⟩; have hX : Ext W w' := (by (repeat (first | assumption | exact Ext.refl _ | refine Ext.drew ?_ | refine Ext.alloc ?_ _ | refine Ext.drewN ?_ _ | refine Ext.trans ?_ (by assumption))))))
    go_ret
    exact ⟨rfl, by (repeat (first | assumption | exact Ext.refl _ | refine Ext.drew ?_ | refine Ext.alloc ?_ _ | refine Ext.drewN ?_ _ | refine Ext.trans ?_ (by assumption)))⟩
set_option maxHeartbeats 1000000 in
set_option maxRecDepth 100000 in
theorem order_tff0 (ar : Int) (ap : ByteArray) (ax : Bool) (au : Int) (br : Int) (bp : ByteArray) (bx : Bool) (bu : Int) (cr : Int) (cp : ByteArray) (cx : Bool) (cu : Int) (q : Int) (s : ByteArray) (w : World) (hm : ¬ 4096 < mx4 (ap.size : Int) (bp.size : Int) (cp.size : Int) (s.size : Int)) (hsz : ap.size ≤ 9223372036854775807) (hk : checkG ar ap ax au = 0) (haa : narrowG ar ap ax au ar ap ax au = true) (hab : narrowG ar ap ax au br bp bx bu = true) (hbc : narrowG br bp bx bu cr cp cx cu = false) (hba : narrowG br bp bx bu ar ap ax au = false) : Calls Tryd.prog 3 #[.agg #[.int .i64 ar, .string ap, .bool ax, .int .i64 au], .agg #[.int .i64 br, .string bp, .bool bx, .int .i64 bu], .agg #[.int .i64 cr, .string cp, .bool cx, .int .i64 cu], .int .i64 q, .string s] w fun e w' => e = .returned (.bool true) ∧ Ext w w' := by
  obtain ⟨W, hW, hE, b1, b2, b3⟩ := box3 w #[.int .i64 ar, .string ap, .bool ax, .int .i64 au] #[.int .i64 br, .string bp, .bool bx, .int .i64 bu] #[.int .i64 cr, .string cp, .bool cx, .int .i64 cu] 23 23 23
  have ac0 := b1 0 _ rfl
  have ak0 := fun (w' : World) (h : Ext W w') => h.cellk ac0
  have ac1 := b1 1 _ rfl
  have ak1 := fun (w' : World) (h : Ext W w') => h.cellk ac1
  have ac2 := b1 2 _ rfl
  have ak2 := fun (w' : World) (h : Ext W w') => h.cellk ac2
  have ac3 := b1 3 _ rfl
  have ak3 := fun (w' : World) (h : Ext W w') => h.cellk ac3
  have bc0 := b2 0 _ rfl
  have bk0 := fun (w' : World) (h : Ext W w') => h.cellk bc0
  have bc1 := b2 1 _ rfl
  have bk1 := fun (w' : World) (h : Ext W w') => h.cellk bc1
  have bc2 := b2 2 _ rfl
  have bk2 := fun (w' : World) (h : Ext W w') => h.cellk bc2
  have bc3 := b2 3 _ rfl
  have bk3 := fun (w' : World) (h : Ext W w') => h.cellk bc3
  have cc0 := b3 0 _ rfl
  have ck0 := fun (w' : World) (h : Ext W w') => h.cellk cc0
  have cc1 := b3 1 _ rfl
  have ck1 := fun (w' : World) (h : Ext W w') => h.cellk cc1
  have cc2 := b3 2 _ rfl
  have ck2 := fun (w' : World) (h : Ext W w') => h.cellk cc2
  have cc3 := b3 3 _ rfl
  have ck3 := fun (w' : World) (h : Ext W w') => h.cellk cc3
  have hX0 : Ext W W := Ext.refl W
  clear b1 b2 b3
  go_enter Tryd.func3, Tryd.ntmps3
  go_upto_region 1 with fail
  rw [← hW]
  clear hW
  go_wp2_with (first | (go_at_call 11; (with_reducible refine (check_val ar ap ax au 0 hk hsz _).mono ?_); rintro e w' ⟨rfl, hb⟩; have hX : Ext W w' := (by (repeat (first | assumption | exact Ext.refl _ | refine Ext.drew ?_ | refine Ext.alloc ?_ _ | refine Ext.drewN ?_ _ | refine Ext.trans ?_ (by assumption))))) | (go_at_call 12; (with_reducible refine (narrow_val ar ap ax au ar ap ax au true haa _).mono ?_); rintro e w' ⟨rfl, hb⟩; have hX : Ext W w' := (by (repeat (first | assumption | exact Ext.refl _ | refine Ext.drew ?_ | refine Ext.alloc ?_ _ | refine Ext.drewN ?_ _ | refine Ext.trans ?_ (by assumption))))) | (go_at_call 12; (with_reducible refine (narrow_val ar ap ax au br bp bx bu true hab _).mono ?_); rintro e w' ⟨rfl, hb⟩; have hX : Ext W w' := (by (repeat (first | assumption | exact Ext.refl _ | refine Ext.drew ?_ | refine Ext.alloc ?_ _ | refine Ext.drewN ?_ _ | refine Ext.trans ?_ (by assumption))))) | (go_at_call 12; (with_reducible refine (narrow_val br bp bx bu cr cp cx cu false hbc _).mono ?_); rintro e w' ⟨rfl, hb⟩; have hX : Ext W w' := (by (repeat (first | assumption | exact Ext.refl _ | refine Ext.drew ?_ | refine Ext.alloc ?_ _ | refine Ext.drewN ?_ _ | refine Ext.trans ?_ (by assumption))))) | (go_at_call 12; (with_reducible refine (narrow_val br bp bx bu ar ap ax au false hba _).mono ?_); rintro e w' ⟨rfl, hb⟩; have hX : Ext W w' := (by (repeat (first | assumption | exact Ext.refl _ | refine Ext.drew ?_ | refine Ext.alloc ?_ _ | refine Ext.drewN ?_ _ | refine Ext.trans ?_ (by assumption))))) | (go_at_call 10; (with_reducible refine (works_any _).mono ?_); rintro e w' ⟨rfl, hb⟩; have hX : Ext W w' := (by (repeat (first | assumption | exact Ext.refl _ | refine Ext.drew ?_ | refine Ext.alloc ?_ _ | refine Ext.drewN ?_ _ | refine Ext.trans ?_ (by assumption))))))
  all_goals
    refine wp_region_noPanic ?_
    refine rg_start [(true, 0), (true, 1), (false, 2), (true, 3), (true, 4), (true, 5), (false, 6), (true, 7), (true, 8), (true, 9), (true, 10), (true, 11), (true, 12), (true, 13), (true, 14), (true, 15), (true, 16), (true, 17), (true, 18)] (fun w' => Ext W w') (by kernel_rfl) (by kernel_rfl) (fun _ _ _ _ _ h => h) (by (repeat (first | assumption | exact Ext.refl _ | refine Ext.drew ?_ | refine Ext.alloc ?_ _ | refine Ext.drewN ?_ _ | refine Ext.trans ?_ (by assumption)))) ?_
    iterate 2
      first
        | (refine rg_off (a' := ?_) rfl rfl (by rfl) ?_ ?_; rotate_left 1; (· simp only [Act.put, List.setIfInBounds_toArray, List.set_cons_zero, List.set_cons_succ]; rfl))
        | (refine rg_y (v := ?_) (a' := ?_) rfl rfl (by rfl) (fun w' hw' => ?_) ?_ ?_; rotate_left 2; (· go_simp; with_reducible rfl); (· simp only [Act.put, List.setIfInBounds_toArray, List.set_cons_zero, List.set_cons_succ]; rfl))
    refine rg_call (args := ?_) rfl Tryd.func12 (by kernel_rfl) rfl (by rfl) rfl rfl ?_ ?_
    rotate_left 1
    · go_simp; rfl
    first | (with_reducible refine (narrow_val ar ap ax au ar ap ax au true haa _).mono ?_) | (with_reducible refine (narrow_val ar ap ax au br bp bx bu true hab _).mono ?_) | (with_reducible refine (narrow_val br bp bx bu cr cp cx cu false hbc _).mono ?_) | (with_reducible refine (narrow_val br bp bx bu ar ap ax au false hba _).mono ?_)
    rintro e w' ⟨rfl, hb⟩
    refine ⟨_, _, rfl, by (repeat (first | assumption | exact Ext.refl _ | refine Ext.drew ?_ | refine Ext.alloc ?_ _ | refine Ext.drewN ?_ _ | refine Ext.trans ?_ (by assumption))), (by simp only [Act.put, List.setIfInBounds_toArray, List.set_cons_zero, List.set_cons_succ]; rfl), ?_⟩
    iterate 3
      first
        | (refine rg_off (a' := ?_) rfl rfl (by rfl) ?_ ?_; rotate_left 1; (· simp only [Act.put, List.setIfInBounds_toArray, List.set_cons_zero, List.set_cons_succ]; rfl))
        | (refine rg_y (v := ?_) (a' := ?_) rfl rfl (by rfl) (fun w' hw' => ?_) ?_ ?_; rotate_left 2; (· go_simp; with_reducible rfl); (· simp only [Act.put, List.setIfInBounds_toArray, List.set_cons_zero, List.set_cons_succ]; rfl))
    refine rg_call (args := ?_) rfl Tryd.func12 (by kernel_rfl) rfl (by rfl) rfl rfl ?_ ?_
    rotate_left 1
    · go_simp; rfl
    first | (with_reducible refine (narrow_val ar ap ax au ar ap ax au true haa _).mono ?_) | (with_reducible refine (narrow_val ar ap ax au br bp bx bu true hab _).mono ?_) | (with_reducible refine (narrow_val br bp bx bu cr cp cx cu false hbc _).mono ?_) | (with_reducible refine (narrow_val br bp bx bu ar ap ax au false hba _).mono ?_)
    rintro e w' ⟨rfl, hb⟩
    refine ⟨_, _, rfl, by (repeat (first | assumption | exact Ext.refl _ | refine Ext.drew ?_ | refine Ext.alloc ?_ _ | refine Ext.drewN ?_ _ | refine Ext.trans ?_ (by assumption))), (by simp only [Act.put, List.setIfInBounds_toArray, List.set_cons_zero, List.set_cons_succ]; rfl), ?_⟩
    iterate 12
      first
        | (refine rg_off (a' := ?_) rfl rfl (by rfl) ?_ ?_; rotate_left 1; (· simp only [Act.put, List.setIfInBounds_toArray, List.set_cons_zero, List.set_cons_succ]; rfl))
        | (refine rg_y (v := ?_) (a' := ?_) rfl rfl (by rfl) (fun w' hw' => ?_) ?_ ?_; rotate_left 2; (· go_simp; with_reducible rfl); (· simp only [Act.put, List.setIfInBounds_toArray, List.set_cons_zero, List.set_cons_succ]; rfl))
    refine rg_end (NoPanic.normal ?_)
    go_wp2_with (first | (go_at_call 11; (with_reducible refine (check_val ar ap ax au 0 hk hsz _).mono ?_); rintro e w' ⟨rfl, hb⟩; have hX : Ext W w' := (by (repeat (first | assumption | exact Ext.refl _ | refine Ext.drew ?_ | refine Ext.alloc ?_ _ | refine Ext.drewN ?_ _ | refine Ext.trans ?_ (by assumption))))) | (go_at_call 12; (with_reducible refine (narrow_val ar ap ax au ar ap ax au true haa _).mono ?_); rintro e w' ⟨rfl, hb⟩; have hX : Ext W w' := (by (repeat (first | assumption | exact Ext.refl _ | refine Ext.drew ?_ | refine Ext.alloc ?_ _ | refine Ext.drewN ?_ _ | refine Ext.trans ?_ (by assumption))))) | (go_at_call 12; (with_reducible refine (narrow_val ar ap ax au br bp bx bu true hab _).mono ?_); rintro e w' ⟨rfl, hb⟩; have hX : Ext W w' := (by (repeat (first | assumption | exact Ext.refl _ | refine Ext.drew ?_ | refine Ext.alloc ?_ _ | refine Ext.drewN ?_ _ | refine Ext.trans ?_ (by assumption))))) | (go_at_call 12; (with_reducible refine (narrow_val br bp bx bu cr cp cx cu false hbc _).mono ?_); rintro e w' ⟨rfl, hb⟩; have hX : Ext W w' := (by (repeat (first | assumption | exact Ext.refl _ | refine Ext.drew ?_ | refine Ext.alloc ?_ _ | refine Ext.drewN ?_ _ | refine Ext.trans ?_ (by assumption))))) | (go_at_call 12; (with_reducible refine (narrow_val br bp bx bu ar ap ax au false hba _).mono ?_); rintro e w' ⟨rfl, hb⟩; have hX : Ext W w' := (by (repeat (first | assumption | exact Ext.refl _ | refine Ext.drew ?_ | refine Ext.alloc ?_ _ | refine Ext.drewN ?_ _ | refine Ext.trans ?_ (by assumption))))) | (go_at_call 10; (with_reducible refine (works_any _).mono ?_); rintro e w' ⟨rfl, hb⟩; have hX : Ext W w' := (by (repeat (first | assumption | exact Ext.refl _ | refine Ext.drew ?_ | refine Ext.alloc ?_ _ | refine Ext.drewN ?_ _ | refine Ext.trans ?_ (by assumption))))))
    go_ret
    exact ⟨rfl, by (repeat (first | assumption | exact Ext.refl _ | refine Ext.drew ?_ | refine Ext.alloc ?_ _ | refine Ext.drewN ?_ _ | refine Ext.trans ?_ (by assumption)))⟩
set_option maxHeartbeats 1000000 in
set_option maxRecDepth 100000 in
theorem order_tff1 (ar : Int) (ap : ByteArray) (ax : Bool) (au : Int) (br : Int) (bp : ByteArray) (bx : Bool) (bu : Int) (cr : Int) (cp : ByteArray) (cx : Bool) (cu : Int) (q : Int) (s : ByteArray) (w : World) (hm : ¬ 4096 < mx4 (ap.size : Int) (bp.size : Int) (cp.size : Int) (s.size : Int)) (hsz : ap.size ≤ 9223372036854775807) (k : Int) (hk : checkG ar ap ax au = k) (hk0 : (k == 0) = false) (hab : narrowG ar ap ax au br bp bx bu = true) (hbc : narrowG br bp bx bu cr cp cx cu = false) (hba : narrowG br bp bx bu ar ap ax au = false) : Calls Tryd.prog 3 #[.agg #[.int .i64 ar, .string ap, .bool ax, .int .i64 au], .agg #[.int .i64 br, .string bp, .bool bx, .int .i64 bu], .agg #[.int .i64 cr, .string cp, .bool cx, .int .i64 cu], .int .i64 q, .string s] w fun e w' => e = .returned (.bool true) ∧ Ext w w' := by
  obtain ⟨W, hW, hE, b1, b2, b3⟩ := box3 w #[.int .i64 ar, .string ap, .bool ax, .int .i64 au] #[.int .i64 br, .string bp, .bool bx, .int .i64 bu] #[.int .i64 cr, .string cp, .bool cx, .int .i64 cu] 23 23 23
  have ac0 := b1 0 _ rfl
  have ak0 := fun (w' : World) (h : Ext W w') => h.cellk ac0
  have ac1 := b1 1 _ rfl
  have ak1 := fun (w' : World) (h : Ext W w') => h.cellk ac1
  have ac2 := b1 2 _ rfl
  have ak2 := fun (w' : World) (h : Ext W w') => h.cellk ac2
  have ac3 := b1 3 _ rfl
  have ak3 := fun (w' : World) (h : Ext W w') => h.cellk ac3
  have bc0 := b2 0 _ rfl
  have bk0 := fun (w' : World) (h : Ext W w') => h.cellk bc0
  have bc1 := b2 1 _ rfl
  have bk1 := fun (w' : World) (h : Ext W w') => h.cellk bc1
  have bc2 := b2 2 _ rfl
  have bk2 := fun (w' : World) (h : Ext W w') => h.cellk bc2
  have bc3 := b2 3 _ rfl
  have bk3 := fun (w' : World) (h : Ext W w') => h.cellk bc3
  have cc0 := b3 0 _ rfl
  have ck0 := fun (w' : World) (h : Ext W w') => h.cellk cc0
  have cc1 := b3 1 _ rfl
  have ck1 := fun (w' : World) (h : Ext W w') => h.cellk cc1
  have cc2 := b3 2 _ rfl
  have ck2 := fun (w' : World) (h : Ext W w') => h.cellk cc2
  have cc3 := b3 3 _ rfl
  have ck3 := fun (w' : World) (h : Ext W w') => h.cellk cc3
  have hX0 : Ext W W := Ext.refl W
  clear b1 b2 b3
  go_enter Tryd.func3, Tryd.ntmps3
  go_upto_region 1 with fail
  rw [← hW]
  clear hW
  go_wp2_with (first | (go_at_call 11; (with_reducible refine (check_val ar ap ax au k hk hsz _).mono ?_); rintro e w' ⟨rfl, hb⟩; have hX : Ext W w' := (by (repeat (first | assumption | exact Ext.refl _ | refine Ext.drew ?_ | refine Ext.alloc ?_ _ | refine Ext.drewN ?_ _ | refine Ext.trans ?_ (by assumption))))) | (go_at_call 12; (with_reducible refine (narrow_val ar ap ax au br bp bx bu true hab _).mono ?_); rintro e w' ⟨rfl, hb⟩; have hX : Ext W w' := (by (repeat (first | assumption | exact Ext.refl _ | refine Ext.drew ?_ | refine Ext.alloc ?_ _ | refine Ext.drewN ?_ _ | refine Ext.trans ?_ (by assumption))))) | (go_at_call 12; (with_reducible refine (narrow_val br bp bx bu cr cp cx cu false hbc _).mono ?_); rintro e w' ⟨rfl, hb⟩; have hX : Ext W w' := (by (repeat (first | assumption | exact Ext.refl _ | refine Ext.drew ?_ | refine Ext.alloc ?_ _ | refine Ext.drewN ?_ _ | refine Ext.trans ?_ (by assumption))))) | (go_at_call 12; (with_reducible refine (narrow_val br bp bx bu ar ap ax au false hba _).mono ?_); rintro e w' ⟨rfl, hb⟩; have hX : Ext W w' := (by (repeat (first | assumption | exact Ext.refl _ | refine Ext.drew ?_ | refine Ext.alloc ?_ _ | refine Ext.drewN ?_ _ | refine Ext.trans ?_ (by assumption))))) | (go_at_call 10; (with_reducible refine (works_any _).mono ?_); rintro e w' ⟨rfl, hb⟩; have hX : Ext W w' := (by (repeat (first | assumption | exact Ext.refl _ | refine Ext.drew ?_ | refine Ext.alloc ?_ _ | refine Ext.drewN ?_ _ | refine Ext.trans ?_ (by assumption))))))
  all_goals
    refine wp_region_noPanic ?_
    refine rg_start [(true, 0), (true, 1), (false, 2), (true, 3), (true, 4), (true, 5), (false, 6), (true, 7), (true, 8), (true, 9), (true, 10), (true, 11), (true, 12), (true, 13), (true, 14), (true, 15), (true, 16), (true, 17), (true, 18)] (fun w' => Ext W w') (by kernel_rfl) (by kernel_rfl) (fun _ _ _ _ _ h => h) (by (repeat (first | assumption | exact Ext.refl _ | refine Ext.drew ?_ | refine Ext.alloc ?_ _ | refine Ext.drewN ?_ _ | refine Ext.trans ?_ (by assumption)))) ?_
    iterate 2
      first
        | (refine rg_off (a' := ?_) rfl rfl (by rfl) ?_ ?_; rotate_left 1; (· simp only [Act.put, List.setIfInBounds_toArray, List.set_cons_zero, List.set_cons_succ]; rfl))
        | (refine rg_y (v := ?_) (a' := ?_) rfl rfl (by rfl) (fun w' hw' => ?_) ?_ ?_; rotate_left 2; (· go_simp; with_reducible rfl); (· simp only [Act.put, List.setIfInBounds_toArray, List.set_cons_zero, List.set_cons_succ]; rfl))
    refine rg_call (args := ?_) rfl Tryd.func12 (by kernel_rfl) rfl (by rfl) rfl rfl ?_ ?_
    rotate_left 1
    · go_simp; rfl
    first | (with_reducible refine (narrow_val ar ap ax au br bp bx bu true hab _).mono ?_) | (with_reducible refine (narrow_val br bp bx bu cr cp cx cu false hbc _).mono ?_) | (with_reducible refine (narrow_val br bp bx bu ar ap ax au false hba _).mono ?_)
    rintro e w' ⟨rfl, hb⟩
    refine ⟨_, _, rfl, by (repeat (first | assumption | exact Ext.refl _ | refine Ext.drew ?_ | refine Ext.alloc ?_ _ | refine Ext.drewN ?_ _ | refine Ext.trans ?_ (by assumption))), (by simp only [Act.put, List.setIfInBounds_toArray, List.set_cons_zero, List.set_cons_succ]; rfl), ?_⟩
    iterate 3
      first
        | (refine rg_off (a' := ?_) rfl rfl (by rfl) ?_ ?_; rotate_left 1; (· simp only [Act.put, List.setIfInBounds_toArray, List.set_cons_zero, List.set_cons_succ]; rfl))
        | (refine rg_y (v := ?_) (a' := ?_) rfl rfl (by rfl) (fun w' hw' => ?_) ?_ ?_; rotate_left 2; (· go_simp; with_reducible rfl); (· simp only [Act.put, List.setIfInBounds_toArray, List.set_cons_zero, List.set_cons_succ]; rfl))
    refine rg_call (args := ?_) rfl Tryd.func12 (by kernel_rfl) rfl (by rfl) rfl rfl ?_ ?_
    rotate_left 1
    · go_simp; rfl
    first | (with_reducible refine (narrow_val ar ap ax au br bp bx bu true hab _).mono ?_) | (with_reducible refine (narrow_val br bp bx bu cr cp cx cu false hbc _).mono ?_) | (with_reducible refine (narrow_val br bp bx bu ar ap ax au false hba _).mono ?_)
    rintro e w' ⟨rfl, hb⟩
    refine ⟨_, _, rfl, by (repeat (first | assumption | exact Ext.refl _ | refine Ext.drew ?_ | refine Ext.alloc ?_ _ | refine Ext.drewN ?_ _ | refine Ext.trans ?_ (by assumption))), (by simp only [Act.put, List.setIfInBounds_toArray, List.set_cons_zero, List.set_cons_succ]; rfl), ?_⟩
    iterate 12
      first
        | (refine rg_off (a' := ?_) rfl rfl (by rfl) ?_ ?_; rotate_left 1; (· simp only [Act.put, List.setIfInBounds_toArray, List.set_cons_zero, List.set_cons_succ]; rfl))
        | (refine rg_y (v := ?_) (a' := ?_) rfl rfl (by rfl) (fun w' hw' => ?_) ?_ ?_; rotate_left 2; (· go_simp; with_reducible rfl); (· simp only [Act.put, List.setIfInBounds_toArray, List.set_cons_zero, List.set_cons_succ]; rfl))
    refine rg_end (NoPanic.normal ?_)
    go_wp2_with (first | (go_at_call 11; (with_reducible refine (check_val ar ap ax au k hk hsz _).mono ?_); rintro e w' ⟨rfl, hb⟩; have hX : Ext W w' := (by (repeat (first | assumption | exact Ext.refl _ | refine Ext.drew ?_ | refine Ext.alloc ?_ _ | refine Ext.drewN ?_ _ | refine Ext.trans ?_ (by assumption))))) | (go_at_call 12; (with_reducible refine (narrow_val ar ap ax au br bp bx bu true hab _).mono ?_); rintro e w' ⟨rfl, hb⟩; have hX : Ext W w' := (by (repeat (first | assumption | exact Ext.refl _ | refine Ext.drew ?_ | refine Ext.alloc ?_ _ | refine Ext.drewN ?_ _ | refine Ext.trans ?_ (by assumption))))) | (go_at_call 12; (with_reducible refine (narrow_val br bp bx bu cr cp cx cu false hbc _).mono ?_); rintro e w' ⟨rfl, hb⟩; have hX : Ext W w' := (by (repeat (first | assumption | exact Ext.refl _ | refine Ext.drew ?_ | refine Ext.alloc ?_ _ | refine Ext.drewN ?_ _ | refine Ext.trans ?_ (by assumption))))) | (go_at_call 12; (with_reducible refine (narrow_val br bp bx bu ar ap ax au false hba _).mono ?_); rintro e w' ⟨rfl, hb⟩; have hX : Ext W w' := (by (repeat (first | assumption | exact Ext.refl _ | refine Ext.drew ?_ | refine Ext.alloc ?_ _ | refine Ext.drewN ?_ _ | refine Ext.trans ?_ (by assumption))))) | (go_at_call 10; (with_reducible refine (works_any _).mono ?_); rintro e w' ⟨rfl, hb⟩; have hX : Ext W w' := (by (repeat (first | assumption | exact Ext.refl _ | refine Ext.drew ?_ | refine Ext.alloc ?_ _ | refine Ext.drewN ?_ _ | refine Ext.trans ?_ (by assumption))))))
    go_ret
    exact ⟨rfl, by (repeat (first | assumption | exact Ext.refl _ | refine Ext.drew ?_ | refine Ext.alloc ?_ _ | refine Ext.drewN ?_ _ | refine Ext.trans ?_ (by assumption)))⟩
set_option maxHeartbeats 1000000 in
set_option maxRecDepth 100000 in
theorem order_f0 (ar : Int) (ap : ByteArray) (ax : Bool) (au : Int) (br : Int) (bp : ByteArray) (bx : Bool) (bu : Int) (cr : Int) (cp : ByteArray) (cx : Bool) (cu : Int) (q : Int) (s : ByteArray) (w : World) (hm : ¬ 4096 < mx4 (ap.size : Int) (bp.size : Int) (cp.size : Int) (s.size : Int)) (hsz : ap.size ≤ 9223372036854775807) (hk : checkG ar ap ax au = 0) (haa : narrowG ar ap ax au ar ap ax au = true) (hab : narrowG ar ap ax au br bp bx bu = false) : Calls Tryd.prog 3 #[.agg #[.int .i64 ar, .string ap, .bool ax, .int .i64 au], .agg #[.int .i64 br, .string bp, .bool bx, .int .i64 bu], .agg #[.int .i64 cr, .string cp, .bool cx, .int .i64 cu], .int .i64 q, .string s] w fun e w' => e = .returned (.bool true) ∧ Ext w w' := by
  obtain ⟨W, hW, hE, b1, b2, b3⟩ := box3 w #[.int .i64 ar, .string ap, .bool ax, .int .i64 au] #[.int .i64 br, .string bp, .bool bx, .int .i64 bu] #[.int .i64 cr, .string cp, .bool cx, .int .i64 cu] 23 23 23
  have ac0 := b1 0 _ rfl
  have ak0 := fun (w' : World) (h : Ext W w') => h.cellk ac0
  have ac1 := b1 1 _ rfl
  have ak1 := fun (w' : World) (h : Ext W w') => h.cellk ac1
  have ac2 := b1 2 _ rfl
  have ak2 := fun (w' : World) (h : Ext W w') => h.cellk ac2
  have ac3 := b1 3 _ rfl
  have ak3 := fun (w' : World) (h : Ext W w') => h.cellk ac3
  have bc0 := b2 0 _ rfl
  have bk0 := fun (w' : World) (h : Ext W w') => h.cellk bc0
  have bc1 := b2 1 _ rfl
  have bk1 := fun (w' : World) (h : Ext W w') => h.cellk bc1
  have bc2 := b2 2 _ rfl
  have bk2 := fun (w' : World) (h : Ext W w') => h.cellk bc2
  have bc3 := b2 3 _ rfl
  have bk3 := fun (w' : World) (h : Ext W w') => h.cellk bc3
  have cc0 := b3 0 _ rfl
  have ck0 := fun (w' : World) (h : Ext W w') => h.cellk cc0
  have cc1 := b3 1 _ rfl
  have ck1 := fun (w' : World) (h : Ext W w') => h.cellk cc1
  have cc2 := b3 2 _ rfl
  have ck2 := fun (w' : World) (h : Ext W w') => h.cellk cc2
  have cc3 := b3 3 _ rfl
  have ck3 := fun (w' : World) (h : Ext W w') => h.cellk cc3
  have hX0 : Ext W W := Ext.refl W
  clear b1 b2 b3
  go_enter Tryd.func3, Tryd.ntmps3
  go_upto_region 1 with fail
  rw [← hW]
  clear hW
  go_wp2_with (first | (go_at_call 11; (with_reducible refine (check_val ar ap ax au 0 hk hsz _).mono ?_); rintro e w' ⟨rfl, hb⟩; have hX : Ext W w' := (by (repeat (first | assumption | exact Ext.refl _ | refine Ext.drew ?_ | refine Ext.alloc ?_ _ | refine Ext.drewN ?_ _ | refine Ext.trans ?_ (by assumption))))) | (go_at_call 12; (with_reducible refine (narrow_val ar ap ax au ar ap ax au true haa _).mono ?_); rintro e w' ⟨rfl, hb⟩; have hX : Ext W w' := (by (repeat (first | assumption | exact Ext.refl _ | refine Ext.drew ?_ | refine Ext.alloc ?_ _ | refine Ext.drewN ?_ _ | refine Ext.trans ?_ (by assumption))))) | (go_at_call 12; (with_reducible refine (narrow_val ar ap ax au br bp bx bu false hab _).mono ?_); rintro e w' ⟨rfl, hb⟩; have hX : Ext W w' := (by (repeat (first | assumption | exact Ext.refl _ | refine Ext.drew ?_ | refine Ext.alloc ?_ _ | refine Ext.drewN ?_ _ | refine Ext.trans ?_ (by assumption))))) | (go_at_call 10; (with_reducible refine (works_any _).mono ?_); rintro e w' ⟨rfl, hb⟩; have hX : Ext W w' := (by (repeat (first | assumption | exact Ext.refl _ | refine Ext.drew ?_ | refine Ext.alloc ?_ _ | refine Ext.drewN ?_ _ | refine Ext.trans ?_ (by assumption))))))
  all_goals
    refine wp_region_noPanic ?_
    refine rg_start [(true, 0), (true, 1), (false, 2), (true, 3), (true, 4), (true, 5), (true, 6), (true, 7), (true, 8), (true, 9), (true, 10), (true, 11), (true, 12), (true, 13), (true, 14), (true, 15), (true, 16), (true, 17), (true, 18)] (fun w' => Ext W w') (by kernel_rfl) (by kernel_rfl) (fun _ _ _ _ _ h => h) (by (repeat (first | assumption | exact Ext.refl _ | refine Ext.drew ?_ | refine Ext.alloc ?_ _ | refine Ext.drewN ?_ _ | refine Ext.trans ?_ (by assumption)))) ?_
    iterate 2
      first
        | (refine rg_off (a' := ?_) rfl rfl (by rfl) ?_ ?_; rotate_left 1; (· simp only [Act.put, List.setIfInBounds_toArray, List.set_cons_zero, List.set_cons_succ]; rfl))
        | (refine rg_y (v := ?_) (a' := ?_) rfl rfl (by rfl) (fun w' hw' => ?_) ?_ ?_; rotate_left 2; (· go_simp; with_reducible rfl); (· simp only [Act.put, List.setIfInBounds_toArray, List.set_cons_zero, List.set_cons_succ]; rfl))
    refine rg_call (args := ?_) rfl Tryd.func12 (by kernel_rfl) rfl (by rfl) rfl rfl ?_ ?_
    rotate_left 1
    · go_simp; rfl
    first | (with_reducible refine (narrow_val ar ap ax au ar ap ax au true haa _).mono ?_) | (with_reducible refine (narrow_val ar ap ax au br bp bx bu false hab _).mono ?_)
    rintro e w' ⟨rfl, hb⟩
    refine ⟨_, _, rfl, by (repeat (first | assumption | exact Ext.refl _ | refine Ext.drew ?_ | refine Ext.alloc ?_ _ | refine Ext.drewN ?_ _ | refine Ext.trans ?_ (by assumption))), (by simp only [Act.put, List.setIfInBounds_toArray, List.set_cons_zero, List.set_cons_succ]; rfl), ?_⟩
    iterate 16
      first
        | (refine rg_off (a' := ?_) rfl rfl (by rfl) ?_ ?_; rotate_left 1; (· simp only [Act.put, List.setIfInBounds_toArray, List.set_cons_zero, List.set_cons_succ]; rfl))
        | (refine rg_y (v := ?_) (a' := ?_) rfl rfl (by rfl) (fun w' hw' => ?_) ?_ ?_; rotate_left 2; (· go_simp; with_reducible rfl); (· simp only [Act.put, List.setIfInBounds_toArray, List.set_cons_zero, List.set_cons_succ]; rfl))
    refine rg_end (NoPanic.normal ?_)
    go_wp2_with (first | (go_at_call 11; (with_reducible refine (check_val ar ap ax au 0 hk hsz _).mono ?_); rintro e w' ⟨rfl, hb⟩; have hX : Ext W w' := (by (repeat (first | assumption | exact Ext.refl _ | refine Ext.drew ?_ | refine Ext.alloc ?_ _ | refine Ext.drewN ?_ _ | refine Ext.trans ?_ (by assumption))))) | (go_at_call 12; (with_reducible refine (narrow_val ar ap ax au ar ap ax au true haa _).mono ?_); rintro e w' ⟨rfl, hb⟩; have hX : Ext W w' := (by (repeat (first | assumption | exact Ext.refl _ | refine Ext.drew ?_ | refine Ext.alloc ?_ _ | refine Ext.drewN ?_ _ | refine Ext.trans ?_ (by assumption))))) | (go_at_call 12; (with_reducible refine (narrow_val ar ap ax au br bp bx bu false hab _).mono ?_); rintro e w' ⟨rfl, hb⟩; have hX : Ext W w' := (by (repeat (first | assumption | exact Ext.refl _ | refine Ext.drew ?_ | refine Ext.alloc ?_ _ | refine Ext.drewN ?_ _ | refine Ext.trans ?_ (by assumption))))) | (go_at_call 10; (with_reducible refine (works_any _).mono ?_); rintro e w' ⟨rfl, hb⟩; have hX : Ext W w' := (by (repeat (first | assumption | exact Ext.refl _ | refine Ext.drew ?_ | refine Ext.alloc ?_ _ | refine Ext.drewN ?_ _ | refine Ext.trans ?_ (by assumption))))))
    go_ret
    exact ⟨rfl, by (repeat (first | assumption | exact Ext.refl _ | refine Ext.drew ?_ | refine Ext.alloc ?_ _ | refine Ext.drewN ?_ _ | refine Ext.trans ?_ (by assumption)))⟩
set_option maxHeartbeats 1000000 in
set_option maxRecDepth 100000 in
theorem order_f1 (ar : Int) (ap : ByteArray) (ax : Bool) (au : Int) (br : Int) (bp : ByteArray) (bx : Bool) (bu : Int) (cr : Int) (cp : ByteArray) (cx : Bool) (cu : Int) (q : Int) (s : ByteArray) (w : World) (hm : ¬ 4096 < mx4 (ap.size : Int) (bp.size : Int) (cp.size : Int) (s.size : Int)) (hsz : ap.size ≤ 9223372036854775807) (k : Int) (hk : checkG ar ap ax au = k) (hk0 : (k == 0) = false) (hab : narrowG ar ap ax au br bp bx bu = false) : Calls Tryd.prog 3 #[.agg #[.int .i64 ar, .string ap, .bool ax, .int .i64 au], .agg #[.int .i64 br, .string bp, .bool bx, .int .i64 bu], .agg #[.int .i64 cr, .string cp, .bool cx, .int .i64 cu], .int .i64 q, .string s] w fun e w' => e = .returned (.bool true) ∧ Ext w w' := by
  obtain ⟨W, hW, hE, b1, b2, b3⟩ := box3 w #[.int .i64 ar, .string ap, .bool ax, .int .i64 au] #[.int .i64 br, .string bp, .bool bx, .int .i64 bu] #[.int .i64 cr, .string cp, .bool cx, .int .i64 cu] 23 23 23
  have ac0 := b1 0 _ rfl
  have ak0 := fun (w' : World) (h : Ext W w') => h.cellk ac0
  have ac1 := b1 1 _ rfl
  have ak1 := fun (w' : World) (h : Ext W w') => h.cellk ac1
  have ac2 := b1 2 _ rfl
  have ak2 := fun (w' : World) (h : Ext W w') => h.cellk ac2
  have ac3 := b1 3 _ rfl
  have ak3 := fun (w' : World) (h : Ext W w') => h.cellk ac3
  have bc0 := b2 0 _ rfl
  have bk0 := fun (w' : World) (h : Ext W w') => h.cellk bc0
  have bc1 := b2 1 _ rfl
  have bk1 := fun (w' : World) (h : Ext W w') => h.cellk bc1
  have bc2 := b2 2 _ rfl
  have bk2 := fun (w' : World) (h : Ext W w') => h.cellk bc2
  have bc3 := b2 3 _ rfl
  have bk3 := fun (w' : World) (h : Ext W w') => h.cellk bc3
  have cc0 := b3 0 _ rfl
  have ck0 := fun (w' : World) (h : Ext W w') => h.cellk cc0
  have cc1 := b3 1 _ rfl
  have ck1 := fun (w' : World) (h : Ext W w') => h.cellk cc1
  have cc2 := b3 2 _ rfl
  have ck2 := fun (w' : World) (h : Ext W w') => h.cellk cc2
  have cc3 := b3 3 _ rfl
  have ck3 := fun (w' : World) (h : Ext W w') => h.cellk cc3
  have hX0 : Ext W W := Ext.refl W
  clear b1 b2 b3
  go_enter Tryd.func3, Tryd.ntmps3
  go_upto_region 1 with fail
  rw [← hW]
  clear hW
  go_wp2_with (first | (go_at_call 11; (with_reducible refine (check_val ar ap ax au k hk hsz _).mono ?_); rintro e w' ⟨rfl, hb⟩; have hX : Ext W w' := (by (repeat (first | assumption | exact Ext.refl _ | refine Ext.drew ?_ | refine Ext.alloc ?_ _ | refine Ext.drewN ?_ _ | refine Ext.trans ?_ (by assumption))))) | (go_at_call 12; (with_reducible refine (narrow_val ar ap ax au br bp bx bu false hab _).mono ?_); rintro e w' ⟨rfl, hb⟩; have hX : Ext W w' := (by (repeat (first | assumption | exact Ext.refl _ | refine Ext.drew ?_ | refine Ext.alloc ?_ _ | refine Ext.drewN ?_ _ | refine Ext.trans ?_ (by assumption))))) | (go_at_call 10; (with_reducible refine (works_any _).mono ?_); rintro e w' ⟨rfl, hb⟩; have hX : Ext W w' := (by (repeat (first | assumption | exact Ext.refl _ | refine Ext.drew ?_ | refine Ext.alloc ?_ _ | refine Ext.drewN ?_ _ | refine Ext.trans ?_ (by assumption))))))
  all_goals
    refine wp_region_noPanic ?_
    refine rg_start [(true, 0), (true, 1), (false, 2), (true, 3), (true, 4), (true, 5), (true, 6), (true, 7), (true, 8), (true, 9), (true, 10), (true, 11), (true, 12), (true, 13), (true, 14), (true, 15), (true, 16), (true, 17), (true, 18)] (fun w' => Ext W w') (by kernel_rfl) (by kernel_rfl) (fun _ _ _ _ _ h => h) (by (repeat (first | assumption | exact Ext.refl _ | refine Ext.drew ?_ | refine Ext.alloc ?_ _ | refine Ext.drewN ?_ _ | refine Ext.trans ?_ (by assumption)))) ?_
    iterate 2
      first
        | (refine rg_off (a' := ?_) rfl rfl (by rfl) ?_ ?_; rotate_left 1; (· simp only [Act.put, List.setIfInBounds_toArray, List.set_cons_zero, List.set_cons_succ]; rfl))
        | (refine rg_y (v := ?_) (a' := ?_) rfl rfl (by rfl) (fun w' hw' => ?_) ?_ ?_; rotate_left 2; (· go_simp; with_reducible rfl); (· simp only [Act.put, List.setIfInBounds_toArray, List.set_cons_zero, List.set_cons_succ]; rfl))
    refine rg_call (args := ?_) rfl Tryd.func12 (by kernel_rfl) rfl (by rfl) rfl rfl ?_ ?_
    rotate_left 1
    · go_simp; rfl
    first | (with_reducible refine (narrow_val ar ap ax au br bp bx bu false hab _).mono ?_)
    rintro e w' ⟨rfl, hb⟩
    refine ⟨_, _, rfl, by (repeat (first | assumption | exact Ext.refl _ | refine Ext.drew ?_ | refine Ext.alloc ?_ _ | refine Ext.drewN ?_ _ | refine Ext.trans ?_ (by assumption))), (by simp only [Act.put, List.setIfInBounds_toArray, List.set_cons_zero, List.set_cons_succ]; rfl), ?_⟩
    iterate 16
      first
        | (refine rg_off (a' := ?_) rfl rfl (by rfl) ?_ ?_; rotate_left 1; (· simp only [Act.put, List.setIfInBounds_toArray, List.set_cons_zero, List.set_cons_succ]; rfl))
        | (refine rg_y (v := ?_) (a' := ?_) rfl rfl (by rfl) (fun w' hw' => ?_) ?_ ?_; rotate_left 2; (· go_simp; with_reducible rfl); (· simp only [Act.put, List.setIfInBounds_toArray, List.set_cons_zero, List.set_cons_succ]; rfl))
    refine rg_end (NoPanic.normal ?_)
    go_wp2_with (first | (go_at_call 11; (with_reducible refine (check_val ar ap ax au k hk hsz _).mono ?_); rintro e w' ⟨rfl, hb⟩; have hX : Ext W w' := (by (repeat (first | assumption | exact Ext.refl _ | refine Ext.drew ?_ | refine Ext.alloc ?_ _ | refine Ext.drewN ?_ _ | refine Ext.trans ?_ (by assumption))))) | (go_at_call 12; (with_reducible refine (narrow_val ar ap ax au br bp bx bu false hab _).mono ?_); rintro e w' ⟨rfl, hb⟩; have hX : Ext W w' := (by (repeat (first | assumption | exact Ext.refl _ | refine Ext.drew ?_ | refine Ext.alloc ?_ _ | refine Ext.drewN ?_ _ | refine Ext.trans ?_ (by assumption))))) | (go_at_call 10; (with_reducible refine (works_any _).mono ?_); rintro e w' ⟨rfl, hb⟩; have hX : Ext W w' := (by (repeat (first | assumption | exact Ext.refl _ | refine Ext.drew ?_ | refine Ext.alloc ?_ _ | refine Ext.drewN ?_ _ | refine Ext.trans ?_ (by assumption))))))
    go_ret
    exact ⟨rfl, by (repeat (first | assumption | exact Ext.refl _ | refine Ext.drew ?_ | refine Ext.alloc ?_ _ | refine Ext.drewN ?_ _ | refine Ext.trans ?_ (by assumption)))⟩
set_option maxHeartbeats 1000000 in
set_option maxRecDepth 100000 in
theorem order_tft0 (ar : Int) (ap : ByteArray) (ax : Bool) (au : Int) (br : Int) (bp : ByteArray) (bx : Bool) (bu : Int) (cr : Int) (cp : ByteArray) (cx : Bool) (cu : Int) (q : Int) (s : ByteArray) (w : World) (hm : ¬ 4096 < mx4 (ap.size : Int) (bp.size : Int) (cp.size : Int) (s.size : Int)) (hsz : ap.size ≤ 9223372036854775807) (hk : checkG ar ap ax au = 0) (haa : narrowG ar ap ax au ar ap ax au = true) (hab : narrowG ar ap ax au br bp bx bu = true) (hbc : narrowG br bp bx bu cr cp cx cu = false) (hba : narrowG br bp bx bu ar ap ax au = true) (v : Bool) (hca : coversG ar ap ax q s = v) (hcb : coversG br bp bx q s = v) : Calls Tryd.prog 3 #[.agg #[.int .i64 ar, .string ap, .bool ax, .int .i64 au], .agg #[.int .i64 br, .string bp, .bool bx, .int .i64 bu], .agg #[.int .i64 cr, .string cp, .bool cx, .int .i64 cu], .int .i64 q, .string s] w fun e w' => e = .returned (.bool true) ∧ Ext w w' := by
  obtain ⟨W, hW, hE, b1, b2, b3⟩ := box3 w #[.int .i64 ar, .string ap, .bool ax, .int .i64 au] #[.int .i64 br, .string bp, .bool bx, .int .i64 bu] #[.int .i64 cr, .string cp, .bool cx, .int .i64 cu] 23 23 23
  have ac0 := b1 0 _ rfl
  have ak0 := fun (w' : World) (h : Ext W w') => h.cellk ac0
  have ac1 := b1 1 _ rfl
  have ak1 := fun (w' : World) (h : Ext W w') => h.cellk ac1
  have ac2 := b1 2 _ rfl
  have ak2 := fun (w' : World) (h : Ext W w') => h.cellk ac2
  have ac3 := b1 3 _ rfl
  have ak3 := fun (w' : World) (h : Ext W w') => h.cellk ac3
  have bc0 := b2 0 _ rfl
  have bk0 := fun (w' : World) (h : Ext W w') => h.cellk bc0
  have bc1 := b2 1 _ rfl
  have bk1 := fun (w' : World) (h : Ext W w') => h.cellk bc1
  have bc2 := b2 2 _ rfl
  have bk2 := fun (w' : World) (h : Ext W w') => h.cellk bc2
  have bc3 := b2 3 _ rfl
  have bk3 := fun (w' : World) (h : Ext W w') => h.cellk bc3
  have cc0 := b3 0 _ rfl
  have ck0 := fun (w' : World) (h : Ext W w') => h.cellk cc0
  have cc1 := b3 1 _ rfl
  have ck1 := fun (w' : World) (h : Ext W w') => h.cellk cc1
  have cc2 := b3 2 _ rfl
  have ck2 := fun (w' : World) (h : Ext W w') => h.cellk cc2
  have cc3 := b3 3 _ rfl
  have ck3 := fun (w' : World) (h : Ext W w') => h.cellk cc3
  have hX0 : Ext W W := Ext.refl W
  clear b1 b2 b3
  go_enter Tryd.func3, Tryd.ntmps3
  go_upto_region 1 with fail
  rw [← hW]
  clear hW
  go_wp2_with (first | (go_at_call 11; (with_reducible refine (check_val ar ap ax au 0 hk hsz _).mono ?_); rintro e w' ⟨rfl, hb⟩; have hX : Ext W w' := (by (repeat (first | assumption | exact Ext.refl _ | refine Ext.drew ?_ | refine Ext.alloc ?_ _ | refine Ext.drewN ?_ _ | refine Ext.trans ?_ (by assumption))))) | (go_at_call 12; (with_reducible refine (narrow_val ar ap ax au ar ap ax au true haa _).mono ?_); rintro e w' ⟨rfl, hb⟩; have hX : Ext W w' := (by (repeat (first | assumption | exact Ext.refl _ | refine Ext.drew ?_ | refine Ext.alloc ?_ _ | refine Ext.drewN ?_ _ | refine Ext.trans ?_ (by assumption))))) | (go_at_call 12; (with_reducible refine (narrow_val ar ap ax au br bp bx bu true hab _).mono ?_); rintro e w' ⟨rfl, hb⟩; have hX : Ext W w' := (by (repeat (first | assumption | exact Ext.refl _ | refine Ext.drew ?_ | refine Ext.alloc ?_ _ | refine Ext.drewN ?_ _ | refine Ext.trans ?_ (by assumption))))) | (go_at_call 12; (with_reducible refine (narrow_val br bp bx bu cr cp cx cu false hbc _).mono ?_); rintro e w' ⟨rfl, hb⟩; have hX : Ext W w' := (by (repeat (first | assumption | exact Ext.refl _ | refine Ext.drew ?_ | refine Ext.alloc ?_ _ | refine Ext.drewN ?_ _ | refine Ext.trans ?_ (by assumption))))) | (go_at_call 12; (with_reducible refine (narrow_val br bp bx bu ar ap ax au true hba _).mono ?_); rintro e w' ⟨rfl, hb⟩; have hX : Ext W w' := (by (repeat (first | assumption | exact Ext.refl _ | refine Ext.drew ?_ | refine Ext.alloc ?_ _ | refine Ext.drewN ?_ _ | refine Ext.trans ?_ (by assumption))))) | (go_at_call 13; (with_reducible refine (covers_val _ _ _ _ _ _ _ hca _).mono ?_); rintro e w' ⟨rfl, hb⟩; have hX : Ext W w' := (by (repeat (first | assumption | exact Ext.refl _ | refine Ext.drew ?_ | refine Ext.alloc ?_ _ | refine Ext.drewN ?_ _ | refine Ext.trans ?_ (by assumption))))) | (go_at_call 13; (with_reducible refine (covers_val _ _ _ _ _ _ _ hcb _).mono ?_); rintro e w' ⟨rfl, hb⟩; have hX : Ext W w' := (by (repeat (first | assumption | exact Ext.refl _ | refine Ext.drew ?_ | refine Ext.alloc ?_ _ | refine Ext.drewN ?_ _ | refine Ext.trans ?_ (by assumption))))) | (go_at_call 10; (with_reducible refine (works_any _).mono ?_); rintro e w' ⟨rfl, hb⟩; have hX : Ext W w' := (by (repeat (first | assumption | exact Ext.refl _ | refine Ext.drew ?_ | refine Ext.alloc ?_ _ | refine Ext.drewN ?_ _ | refine Ext.trans ?_ (by assumption))))))
  all_goals
    go_region_held3 (fun w' => Ext W w') (((repeat (first | assumption | exact Ext.refl _ | refine Ext.drew ?_ | refine Ext.drewN ?_ _ | refine Ext.alloc ?_ _ | (refine Ext.set ?_ (Ext.le (by assumption)) _) | (refine Ext.set ?_ (Nat.le_refl _) _) | refine Ext.trans ?_ (by assumption))); done)) (first | (go_at_call 11; (with_reducible refine (check_val ar ap ax au 0 hk hsz _).mono ?_); rintro e w' ⟨rfl, hb⟩; have hX : Ext W w' := (by (repeat (first | assumption | exact Ext.refl _ | refine Ext.drew ?_ | refine Ext.alloc ?_ _ | refine Ext.drewN ?_ _ | refine Ext.trans ?_ (by assumption))))) | (go_at_call 12; (with_reducible refine (narrow_val ar ap ax au ar ap ax au true haa _).mono ?_); rintro e w' ⟨rfl, hb⟩; have hX : Ext W w' := (by (repeat (first | assumption | exact Ext.refl _ | refine Ext.drew ?_ | refine Ext.alloc ?_ _ | refine Ext.drewN ?_ _ | refine Ext.trans ?_ (by assumption))))) | (go_at_call 12; (with_reducible refine (narrow_val ar ap ax au br bp bx bu true hab _).mono ?_); rintro e w' ⟨rfl, hb⟩; have hX : Ext W w' := (by (repeat (first | assumption | exact Ext.refl _ | refine Ext.drew ?_ | refine Ext.alloc ?_ _ | refine Ext.drewN ?_ _ | refine Ext.trans ?_ (by assumption))))) | (go_at_call 12; (with_reducible refine (narrow_val br bp bx bu cr cp cx cu false hbc _).mono ?_); rintro e w' ⟨rfl, hb⟩; have hX : Ext W w' := (by (repeat (first | assumption | exact Ext.refl _ | refine Ext.drew ?_ | refine Ext.alloc ?_ _ | refine Ext.drewN ?_ _ | refine Ext.trans ?_ (by assumption))))) | (go_at_call 12; (with_reducible refine (narrow_val br bp bx bu ar ap ax au true hba _).mono ?_); rintro e w' ⟨rfl, hb⟩; have hX : Ext W w' := (by (repeat (first | assumption | exact Ext.refl _ | refine Ext.drew ?_ | refine Ext.alloc ?_ _ | refine Ext.drewN ?_ _ | refine Ext.trans ?_ (by assumption))))) | (go_at_call 13; (with_reducible refine (covers_val _ _ _ _ _ _ _ hca _).mono ?_); rintro e w' ⟨rfl, hb⟩; have hX : Ext W w' := (by (repeat (first | assumption | exact Ext.refl _ | refine Ext.drew ?_ | refine Ext.alloc ?_ _ | refine Ext.drewN ?_ _ | refine Ext.trans ?_ (by assumption))))) | (go_at_call 13; (with_reducible refine (covers_val _ _ _ _ _ _ _ hcb _).mono ?_); rintro e w' ⟨rfl, hb⟩; have hX : Ext W w' := (by (repeat (first | assumption | exact Ext.refl _ | refine Ext.drew ?_ | refine Ext.alloc ?_ _ | refine Ext.drewN ?_ _ | refine Ext.trans ?_ (by assumption))))) | (go_at_call 10; (with_reducible refine (works_any _).mono ?_); rintro e w' ⟨rfl, hb⟩; have hX : Ext W w' := (by (repeat (first | assumption | exact Ext.refl _ | refine Ext.drew ?_ | refine Ext.alloc ?_ _ | refine Ext.drewN ?_ _ | refine Ext.trans ?_ (by assumption))))))
    go_wp2_with (first | (go_at_call 11; (with_reducible refine (check_val ar ap ax au 0 hk hsz _).mono ?_); rintro e w' ⟨rfl, hb⟩; have hX : Ext W w' := (by (repeat (first | assumption | exact Ext.refl _ | refine Ext.drew ?_ | refine Ext.alloc ?_ _ | refine Ext.drewN ?_ _ | refine Ext.trans ?_ (by assumption))))) | (go_at_call 12; (with_reducible refine (narrow_val ar ap ax au ar ap ax au true haa _).mono ?_); rintro e w' ⟨rfl, hb⟩; have hX : Ext W w' := (by (repeat (first | assumption | exact Ext.refl _ | refine Ext.drew ?_ | refine Ext.alloc ?_ _ | refine Ext.drewN ?_ _ | refine Ext.trans ?_ (by assumption))))) | (go_at_call 12; (with_reducible refine (narrow_val ar ap ax au br bp bx bu true hab _).mono ?_); rintro e w' ⟨rfl, hb⟩; have hX : Ext W w' := (by (repeat (first | assumption | exact Ext.refl _ | refine Ext.drew ?_ | refine Ext.alloc ?_ _ | refine Ext.drewN ?_ _ | refine Ext.trans ?_ (by assumption))))) | (go_at_call 12; (with_reducible refine (narrow_val br bp bx bu cr cp cx cu false hbc _).mono ?_); rintro e w' ⟨rfl, hb⟩; have hX : Ext W w' := (by (repeat (first | assumption | exact Ext.refl _ | refine Ext.drew ?_ | refine Ext.alloc ?_ _ | refine Ext.drewN ?_ _ | refine Ext.trans ?_ (by assumption))))) | (go_at_call 12; (with_reducible refine (narrow_val br bp bx bu ar ap ax au true hba _).mono ?_); rintro e w' ⟨rfl, hb⟩; have hX : Ext W w' := (by (repeat (first | assumption | exact Ext.refl _ | refine Ext.drew ?_ | refine Ext.alloc ?_ _ | refine Ext.drewN ?_ _ | refine Ext.trans ?_ (by assumption))))) | (go_at_call 13; (with_reducible refine (covers_val _ _ _ _ _ _ _ hca _).mono ?_); rintro e w' ⟨rfl, hb⟩; have hX : Ext W w' := (by (repeat (first | assumption | exact Ext.refl _ | refine Ext.drew ?_ | refine Ext.alloc ?_ _ | refine Ext.drewN ?_ _ | refine Ext.trans ?_ (by assumption))))) | (go_at_call 13; (with_reducible refine (covers_val _ _ _ _ _ _ _ hcb _).mono ?_); rintro e w' ⟨rfl, hb⟩; have hX : Ext W w' := (by (repeat (first | assumption | exact Ext.refl _ | refine Ext.drew ?_ | refine Ext.alloc ?_ _ | refine Ext.drewN ?_ _ | refine Ext.trans ?_ (by assumption))))) | (go_at_call 10; (with_reducible refine (works_any _).mono ?_); rintro e w' ⟨rfl, hb⟩; have hX : Ext W w' := (by (repeat (first | assumption | exact Ext.refl _ | refine Ext.drew ?_ | refine Ext.alloc ?_ _ | refine Ext.drewN ?_ _ | refine Ext.trans ?_ (by assumption))))))
    go_ret
    exact ⟨rfl, by (repeat (first | assumption | exact Ext.refl _ | refine Ext.drew ?_ | refine Ext.alloc ?_ _ | refine Ext.drewN ?_ _ | refine Ext.trans ?_ (by assumption)))⟩
set_option maxHeartbeats 1000000 in
set_option maxRecDepth 100000 in
theorem order_tft1 (ar : Int) (ap : ByteArray) (ax : Bool) (au : Int) (br : Int) (bp : ByteArray) (bx : Bool) (bu : Int) (cr : Int) (cp : ByteArray) (cx : Bool) (cu : Int) (q : Int) (s : ByteArray) (w : World) (hm : ¬ 4096 < mx4 (ap.size : Int) (bp.size : Int) (cp.size : Int) (s.size : Int)) (hsz : ap.size ≤ 9223372036854775807) (k : Int) (hk : checkG ar ap ax au = k) (hk0 : (k == 0) = false) (hab : narrowG ar ap ax au br bp bx bu = true) (hbc : narrowG br bp bx bu cr cp cx cu = false) (hba : narrowG br bp bx bu ar ap ax au = true) (v : Bool) (hca : coversG ar ap ax q s = v) (hcb : coversG br bp bx q s = v) : Calls Tryd.prog 3 #[.agg #[.int .i64 ar, .string ap, .bool ax, .int .i64 au], .agg #[.int .i64 br, .string bp, .bool bx, .int .i64 bu], .agg #[.int .i64 cr, .string cp, .bool cx, .int .i64 cu], .int .i64 q, .string s] w fun e w' => e = .returned (.bool true) ∧ Ext w w' := by
  obtain ⟨W, hW, hE, b1, b2, b3⟩ := box3 w #[.int .i64 ar, .string ap, .bool ax, .int .i64 au] #[.int .i64 br, .string bp, .bool bx, .int .i64 bu] #[.int .i64 cr, .string cp, .bool cx, .int .i64 cu] 23 23 23
  have ac0 := b1 0 _ rfl
  have ak0 := fun (w' : World) (h : Ext W w') => h.cellk ac0
  have ac1 := b1 1 _ rfl
  have ak1 := fun (w' : World) (h : Ext W w') => h.cellk ac1
  have ac2 := b1 2 _ rfl
  have ak2 := fun (w' : World) (h : Ext W w') => h.cellk ac2
  have ac3 := b1 3 _ rfl
  have ak3 := fun (w' : World) (h : Ext W w') => h.cellk ac3
  have bc0 := b2 0 _ rfl
  have bk0 := fun (w' : World) (h : Ext W w') => h.cellk bc0
  have bc1 := b2 1 _ rfl
  have bk1 := fun (w' : World) (h : Ext W w') => h.cellk bc1
  have bc2 := b2 2 _ rfl
  have bk2 := fun (w' : World) (h : Ext W w') => h.cellk bc2
  have bc3 := b2 3 _ rfl
  have bk3 := fun (w' : World) (h : Ext W w') => h.cellk bc3
  have cc0 := b3 0 _ rfl
  have ck0 := fun (w' : World) (h : Ext W w') => h.cellk cc0
  have cc1 := b3 1 _ rfl
  have ck1 := fun (w' : World) (h : Ext W w') => h.cellk cc1
  have cc2 := b3 2 _ rfl
  have ck2 := fun (w' : World) (h : Ext W w') => h.cellk cc2
  have cc3 := b3 3 _ rfl
  have ck3 := fun (w' : World) (h : Ext W w') => h.cellk cc3
  have hX0 : Ext W W := Ext.refl W
  clear b1 b2 b3
  go_enter Tryd.func3, Tryd.ntmps3
  go_upto_region 1 with fail
  rw [← hW]
  clear hW
  go_wp2_with (first | (go_at_call 11; (with_reducible refine (check_val ar ap ax au k hk hsz _).mono ?_); rintro e w' ⟨rfl, hb⟩; have hX : Ext W w' := (by (repeat (first | assumption | exact Ext.refl _ | refine Ext.drew ?_ | refine Ext.alloc ?_ _ | refine Ext.drewN ?_ _ | refine Ext.trans ?_ (by assumption))))) | (go_at_call 12; (with_reducible refine (narrow_val ar ap ax au br bp bx bu true hab _).mono ?_); rintro e w' ⟨rfl, hb⟩; have hX : Ext W w' := (by (repeat (first | assumption | exact Ext.refl _ | refine Ext.drew ?_ | refine Ext.alloc ?_ _ | refine Ext.drewN ?_ _ | refine Ext.trans ?_ (by assumption))))) | (go_at_call 12; (with_reducible refine (narrow_val br bp bx bu cr cp cx cu false hbc _).mono ?_); rintro e w' ⟨rfl, hb⟩; have hX : Ext W w' := (by (repeat (first | assumption | exact Ext.refl _ | refine Ext.drew ?_ | refine Ext.alloc ?_ _ | refine Ext.drewN ?_ _ | refine Ext.trans ?_ (by assumption))))) | (go_at_call 12; (with_reducible refine (narrow_val br bp bx bu ar ap ax au true hba _).mono ?_); rintro e w' ⟨rfl, hb⟩; have hX : Ext W w' := (by (repeat (first | assumption | exact Ext.refl _ | refine Ext.drew ?_ | refine Ext.alloc ?_ _ | refine Ext.drewN ?_ _ | refine Ext.trans ?_ (by assumption))))) | (go_at_call 13; (with_reducible refine (covers_val _ _ _ _ _ _ _ hca _).mono ?_); rintro e w' ⟨rfl, hb⟩; have hX : Ext W w' := (by (repeat (first | assumption | exact Ext.refl _ | refine Ext.drew ?_ | refine Ext.alloc ?_ _ | refine Ext.drewN ?_ _ | refine Ext.trans ?_ (by assumption))))) | (go_at_call 13; (with_reducible refine (covers_val _ _ _ _ _ _ _ hcb _).mono ?_); rintro e w' ⟨rfl, hb⟩; have hX : Ext W w' := (by (repeat (first | assumption | exact Ext.refl _ | refine Ext.drew ?_ | refine Ext.alloc ?_ _ | refine Ext.drewN ?_ _ | refine Ext.trans ?_ (by assumption))))) | (go_at_call 10; (with_reducible refine (works_any _).mono ?_); rintro e w' ⟨rfl, hb⟩; have hX : Ext W w' := (by (repeat (first | assumption | exact Ext.refl _ | refine Ext.drew ?_ | refine Ext.alloc ?_ _ | refine Ext.drewN ?_ _ | refine Ext.trans ?_ (by assumption))))))
  all_goals
    go_region_held3 (fun w' => Ext W w') (((repeat (first | assumption | exact Ext.refl _ | refine Ext.drew ?_ | refine Ext.drewN ?_ _ | refine Ext.alloc ?_ _ | (refine Ext.set ?_ (Ext.le (by assumption)) _) | (refine Ext.set ?_ (Nat.le_refl _) _) | refine Ext.trans ?_ (by assumption))); done)) (first | (go_at_call 11; (with_reducible refine (check_val ar ap ax au k hk hsz _).mono ?_); rintro e w' ⟨rfl, hb⟩; have hX : Ext W w' := (by (repeat (first | assumption | exact Ext.refl _ | refine Ext.drew ?_ | refine Ext.alloc ?_ _ | refine Ext.drewN ?_ _ | refine Ext.trans ?_ (by assumption))))) | (go_at_call 12; (with_reducible refine (narrow_val ar ap ax au br bp bx bu true hab _).mono ?_); rintro e w' ⟨rfl, hb⟩; have hX : Ext W w' := (by (repeat (first | assumption | exact Ext.refl _ | refine Ext.drew ?_ | refine Ext.alloc ?_ _ | refine Ext.drewN ?_ _ | refine Ext.trans ?_ (by assumption))))) | (go_at_call 12; (with_reducible refine (narrow_val br bp bx bu cr cp cx cu false hbc _).mono ?_); rintro e w' ⟨rfl, hb⟩; have hX : Ext W w' := (by (repeat (first | assumption | exact Ext.refl _ | refine Ext.drew ?_ | refine Ext.alloc ?_ _ | refine Ext.drewN ?_ _ | refine Ext.trans ?_ (by assumption))))) | (go_at_call 12; (with_reducible refine (narrow_val br bp bx bu ar ap ax au true hba _).mono ?_); rintro e w' ⟨rfl, hb⟩; have hX : Ext W w' := (by (repeat (first | assumption | exact Ext.refl _ | refine Ext.drew ?_ | refine Ext.alloc ?_ _ | refine Ext.drewN ?_ _ | refine Ext.trans ?_ (by assumption))))) | (go_at_call 13; (with_reducible refine (covers_val _ _ _ _ _ _ _ hca _).mono ?_); rintro e w' ⟨rfl, hb⟩; have hX : Ext W w' := (by (repeat (first | assumption | exact Ext.refl _ | refine Ext.drew ?_ | refine Ext.alloc ?_ _ | refine Ext.drewN ?_ _ | refine Ext.trans ?_ (by assumption))))) | (go_at_call 13; (with_reducible refine (covers_val _ _ _ _ _ _ _ hcb _).mono ?_); rintro e w' ⟨rfl, hb⟩; have hX : Ext W w' := (by (repeat (first | assumption | exact Ext.refl _ | refine Ext.drew ?_ | refine Ext.alloc ?_ _ | refine Ext.drewN ?_ _ | refine Ext.trans ?_ (by assumption))))) | (go_at_call 10; (with_reducible refine (works_any _).mono ?_); rintro e w' ⟨rfl, hb⟩; have hX : Ext W w' := (by (repeat (first | assumption | exact Ext.refl _ | refine Ext.drew ?_ | refine Ext.alloc ?_ _ | refine Ext.drewN ?_ _ | refine Ext.trans ?_ (by assumption))))))
    go_wp2_with (first | (go_at_call 11; (with_reducible refine (check_val ar ap ax au k hk hsz _).mono ?_); rintro e w' ⟨rfl, hb⟩; have hX : Ext W w' := (by (repeat (first | assumption | exact Ext.refl _ | refine Ext.drew ?_ | refine Ext.alloc ?_ _ | refine Ext.drewN ?_ _ | refine Ext.trans ?_ (by assumption))))) | (go_at_call 12; (with_reducible refine (narrow_val ar ap ax au br bp bx bu true hab _).mono ?_); rintro e w' ⟨rfl, hb⟩; have hX : Ext W w' := (by (repeat (first | assumption | exact Ext.refl _ | refine Ext.drew ?_ | refine Ext.alloc ?_ _ | refine Ext.drewN ?_ _ | refine Ext.trans ?_ (by assumption))))) | (go_at_call 12; (with_reducible refine (narrow_val br bp bx bu cr cp cx cu false hbc _).mono ?_); rintro e w' ⟨rfl, hb⟩; have hX : Ext W w' := (by (repeat (first | assumption | exact Ext.refl _ | refine Ext.drew ?_ | refine Ext.alloc ?_ _ | refine Ext.drewN ?_ _ | refine Ext.trans ?_ (by assumption))))) | (go_at_call 12; (with_reducible refine (narrow_val br bp bx bu ar ap ax au true hba _).mono ?_); rintro e w' ⟨rfl, hb⟩; have hX : Ext W w' := (by (repeat (first | assumption | exact Ext.refl _ | refine Ext.drew ?_ | refine Ext.alloc ?_ _ | refine Ext.drewN ?_ _ | refine Ext.trans ?_ (by assumption))))) | (go_at_call 13; (with_reducible refine (covers_val _ _ _ _ _ _ _ hca _).mono ?_); rintro e w' ⟨rfl, hb⟩; have hX : Ext W w' := (by (repeat (first | assumption | exact Ext.refl _ | refine Ext.drew ?_ | refine Ext.alloc ?_ _ | refine Ext.drewN ?_ _ | refine Ext.trans ?_ (by assumption))))) | (go_at_call 13; (with_reducible refine (covers_val _ _ _ _ _ _ _ hcb _).mono ?_); rintro e w' ⟨rfl, hb⟩; have hX : Ext W w' := (by (repeat (first | assumption | exact Ext.refl _ | refine Ext.drew ?_ | refine Ext.alloc ?_ _ | refine Ext.drewN ?_ _ | refine Ext.trans ?_ (by assumption))))) | (go_at_call 10; (with_reducible refine (works_any _).mono ?_); rintro e w' ⟨rfl, hb⟩; have hX : Ext W w' := (by (repeat (first | assumption | exact Ext.refl _ | refine Ext.drew ?_ | refine Ext.alloc ?_ _ | refine Ext.drewN ?_ _ | refine Ext.trans ?_ (by assumption))))))
    go_ret
    exact ⟨rfl, by (repeat (first | assumption | exact Ext.refl _ | refine Ext.drew ?_ | refine Ext.alloc ?_ _ | refine Ext.drewN ?_ _ | refine Ext.trans ?_ (by assumption)))⟩
end Go.Proofs.YtmdjndhebgnjoaaDoor
