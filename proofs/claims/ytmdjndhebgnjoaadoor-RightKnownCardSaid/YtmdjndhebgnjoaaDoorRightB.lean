/- Grants: what the program and the reference compute of them. -/
import Derived.Test.YtmdjndhebgnjoaaDoorRightA
namespace Go.Proofs.YtmdjndhebgnjoaaDoor
set_option linter.unusedVariables false
set_option linter.unusedSimpArgs false
open Go.RowKit Go.Shelf
def prefd (p : ByteArray) : Bool := p.toList.isEmpty || nm p.data.toList
def holdsS (p : ByteArray) (x : Bool) (s : ByteArray) : Bool := if x = true then s.toList == p.toList else pre s p
def withinS (p : ByteArray) (x : Bool) (p' : ByteArray) (x' : Bool) : Bool := if x = true ∧ x' = false then false else holdsS p x p'
def coversG (r : Int) (p : ByteArray) (x : Bool) (right : Int) (s : ByteArray) : Bool := hasR r right && holdsS p x s
def wholeG (p : ByteArray) (x : Bool) : Bool := p.toList.isEmpty && !x
def earlyG (u u' : Int) : Bool := decide (u = 0 ∨ (1 ≤ u' ∧ u' ≤ u))
def narrowG (r : Int) (p : ByteArray) (x : Bool) (u r' : Int) (p' : ByteArray) (x' : Bool) (u' : Int) : Bool := earlyG u u' && hasR r r' && withinS p x p' x'
def okG (r : Int) (p : ByteArray) (x : Bool) (u : Int) : Bool := decide (1 ≤ r ∧ r ≤ 127 ∧ 0 ≤ u ∧ u ≤ 1099511627776) && !(x && p.toList.isEmpty)
def checkG (r : Int) (p : ByteArray) (x : Bool) (u : Int) : Int := if okG r p x u = true then (if prefd p = true then 0 else 10) else 1
set_option maxHeartbeats 1000000 in
set_option maxRecDepth 100000 in
theorem prefixed_any (p : ByteArray) (w : World) (hs : p.size ≤ 9223372036854775807) : Calls Tryd.prog 31 #[.string p] w fun e w' => e = .returned (.bool (prefd p)) ∧ Ext w w' := by
  by_cases h : p.toList.isEmpty = true
  · have e : prefd p = true := by unfold prefd; rw [h]; rfl
    rw [e]
    clear e
    go_enter Tryd.func31, Tryd.ntmps31
    go_wp2
    go_ret
    exact ⟨rfl, Ext.refl _⟩
  · have h' := eq_false_of_ne_true h
    have e : prefd p = nm p.data.toList := by unfold prefd; rw [h']; rfl
    rw [e]
    clear e h
    go_enter Tryd.func31, Tryd.ntmps31
    go_wp2_with (go_at_call 14; refine (name_any _ _ hs).mono ?_; rintro e w' ⟨rfl, hb⟩)
    go_ret
    exact ⟨rfl, hb⟩
set_option maxHeartbeats 1000000 in
set_option maxRecDepth 100000 in
theorem refprefix_any (p : ByteArray) (w : World) (hs : p.size ≤ 9223372036854775807) : Calls Tryd.prog 39 #[.string p] w fun e w' => e = .returned (.bool (prefd p)) ∧ Ext w w' := by
  by_cases h : p.toList.isEmpty = true
  · have e : prefd p = true := by unfold prefd; rw [h]; rfl
    rw [e]
    clear e
    go_enter Tryd.func39, Tryd.ntmps39
    go_wp2
    go_ret
    exact ⟨rfl, Ext.refl _⟩
  · have h' := eq_false_of_ne_true h
    have e : prefd p = nm p.data.toList := by unfold prefd; rw [h']; rfl
    rw [e]
    clear e h
    go_enter Tryd.func39, Tryd.ntmps39
    go_wp2_with (go_at_call 16; refine (refname_any _ _).mono ?_; rintro e w' ⟨rfl, rfl⟩)
    go_ret
    exact ⟨rfl, Ext.refl _⟩
set_option maxHeartbeats 1000000 in
set_option maxRecDepth 100000 in
theorem scopeOf_any (r : Int) (p : ByteArray) (x : Bool) (u : Int) (w : World) : Calls Tryd.prog 33 #[.agg #[.int .i64 r, .string p, .bool x, .int .i64 u]] w fun e w' => e = .returned (.agg #[.string p, .bool x]) ∧ Ext w w' := by
  go_enter Tryd.func33, Tryd.ntmps33
  go_wp2
  exact bodyPost_ret (v := .agg #[.string p, .bool x]) (by simp [results, Tryd.results33, go_sem]) rfl ⟨rfl, by (repeat (first | assumption | exact Ext.refl _ | refine Ext.drew ?_ | refine Ext.alloc ?_ _ | refine Ext.drewN ?_ _ | refine Ext.trans ?_ (by assumption)))⟩
set_option maxHeartbeats 1000000 in
set_option maxRecDepth 100000 in
theorem holds_any (p : ByteArray) (x : Bool) (s : ByteArray) (w : World) : Calls Tryd.prog 35 #[.agg #[.string p, .bool x], .string s] w fun e w' => e = .returned (.bool (holdsS p x s)) ∧ Ext w w' := by
  cases x with
  | true =>
    have e : holdsS p true s = (s.toList == p.toList) := rfl
    rw [e]
    clear e
    go_enter Tryd.func35, Tryd.ntmps35
    go_wp2
    go_ret
    exact ⟨rfl, by (repeat (first | assumption | exact Ext.refl _ | refine Ext.drew ?_ | refine Ext.alloc ?_ _ | refine Ext.drewN ?_ _ | refine Ext.trans ?_ (by assumption)))⟩
  | false =>
    have e : holdsS p false s = pre s p := rfl
    rw [e]
    clear e
    go_enter Tryd.func35, Tryd.ntmps35
    go_wp2_with (go_at_call 42; refine (prefix_any _ _ _).mono ?_; rintro e w' ⟨rfl, hb⟩)
    go_ret
    exact ⟨rfl, by (repeat (first | assumption | exact Ext.refl _ | refine Ext.drew ?_ | refine Ext.alloc ?_ _ | refine Ext.drewN ?_ _ | refine Ext.trans ?_ (by assumption)))⟩
set_option maxHeartbeats 1000000 in
set_option maxRecDepth 100000 in
theorem within_any (p : ByteArray) (x : Bool) (p' : ByteArray) (x' : Bool) (w : World) : Calls Tryd.prog 34 #[.agg #[.string p, .bool x], .agg #[.string p', .bool x']] w fun e w' => e = .returned (.bool (withinS p x p' x')) ∧ Ext w w' := by
  cases x with
  | true =>
    cases x' with
    | true =>
      have e : withinS p true p' true = holdsS p true p' := rfl
      rw [e]
      clear e
      go_enter Tryd.func34, Tryd.ntmps34
      go_wp2_with (go_at_call 35; refine (holds_any _ _ _ _).mono ?_; rintro e w' ⟨rfl, hb⟩)
      go_ret
      exact ⟨rfl, by (repeat (first | assumption | exact Ext.refl _ | refine Ext.drew ?_ | refine Ext.alloc ?_ _ | refine Ext.drewN ?_ _ | refine Ext.trans ?_ (by assumption)))⟩
    | false =>
      have e : withinS p true p' false = false := rfl
      rw [e]
      clear e
      go_enter Tryd.func34, Tryd.ntmps34
      go_wp2
      go_ret
      exact ⟨rfl, by (repeat (first | assumption | exact Ext.refl _ | refine Ext.drew ?_ | refine Ext.alloc ?_ _ | refine Ext.drewN ?_ _ | refine Ext.trans ?_ (by assumption)))⟩
  | false =>
    have e : withinS p false p' x' = holdsS p false p' := by unfold withinS; rw [if_neg (by simp)]
    rw [e]
    clear e
    go_enter Tryd.func34, Tryd.ntmps34
    go_wp2_with (go_at_call 35; refine (holds_any _ _ _ _).mono ?_; rintro e w' ⟨rfl, hb⟩)
    go_ret
    exact ⟨rfl, by (repeat (first | assumption | exact Ext.refl _ | refine Ext.drew ?_ | refine Ext.alloc ?_ _ | refine Ext.drewN ?_ _ | refine Ext.trans ?_ (by assumption)))⟩
set_option maxHeartbeats 1000000 in
set_option maxRecDepth 100000 in
theorem check_any (r : Int) (p : ByteArray) (x : Bool) (u : Int) (w : World) (hs : p.size ≤ 9223372036854775807) : Calls Tryd.prog 11 #[.agg #[.int .i64 r, .string p, .bool x, .int .i64 u]] w fun e w' => e = .returned (.int .i64 (checkG r p x u)) ∧ Ext w w' := by
  by_cases ho : okG r p x u = true
  · by_cases hp : prefd p = true
    · have e : checkG r p x u = 0 := by unfold checkG; rw [if_pos ho, if_pos hp]
      rw [e]
      simp only [okG, Bool.and_eq_true, decide_eq_true_eq, Bool.not_eq_true', Bool.and_eq_false_iff] at ho
      obtain ⟨⟨h1, h2, h3, h4⟩, h5⟩ := ho
      have HP := Lib.hid hp
      clear e hp
      rcases h5 with rfl | h5
      all_goals
        go_enter Tryd.func11, Tryd.ntmps11
        go_wp2_with (go_at_call 31; refine (prefixed_any _ _ hs).mono ?_; rw [HP.out]; rintro e w' ⟨rfl, hb⟩)
        all_goals (go_ret; exact ⟨rfl, by (repeat (first | assumption | exact Ext.refl _ | refine Ext.drew ?_ | refine Ext.alloc ?_ _ | refine Ext.drewN ?_ _ | refine Ext.trans ?_ (by assumption)))⟩)
    · have e : checkG r p x u = 10 := by unfold checkG; rw [if_pos ho, if_neg hp]
      rw [e]
      simp only [okG, Bool.and_eq_true, decide_eq_true_eq, Bool.not_eq_true', Bool.and_eq_false_iff] at ho
      obtain ⟨⟨h1, h2, h3, h4⟩, h5⟩ := ho
      have HP := Lib.hid (eq_false_of_ne_true hp)
      clear e hp
      rcases h5 with rfl | h5
      all_goals
        go_enter Tryd.func11, Tryd.ntmps11
        go_wp2_with (go_at_call 31; refine (prefixed_any _ _ hs).mono ?_; rw [HP.out]; rintro e w' ⟨rfl, hb⟩)
        all_goals (go_ret; exact ⟨rfl, by (repeat (first | assumption | exact Ext.refl _ | refine Ext.drew ?_ | refine Ext.alloc ?_ _ | refine Ext.drewN ?_ _ | refine Ext.trans ?_ (by assumption)))⟩)
  · have e : checkG r p x u = 1 := by unfold checkG; rw [if_neg ho]
    rw [e]
    clear e
    have h' : (r < 1 ∨ 127 < r ∨ u < 0 ∨ 1099511627776 < u) ∨ ((1 ≤ r ∧ r ≤ 127 ∧ 0 ≤ u ∧ u ≤ 1099511627776) ∧ x = true ∧ p.toList.isEmpty = true) := by
      simp only [okG, Bool.and_eq_true, decide_eq_true_eq, Bool.not_eq_true', Bool.and_eq_false_iff] at ho
      by_cases h : 1 ≤ r ∧ r ≤ 127 ∧ 0 ≤ u ∧ u ≤ 1099511627776
      · right
        refine ⟨h, ?_⟩
        have h2 := fun h3 => ho ⟨h, h3⟩
        cases x with
        | false => exact absurd (.inl rfl) h2
        | true =>
          refine ⟨rfl, ?_⟩
          cases h4 : p.toList.isEmpty with
          | false => exact absurd (.inr h4) h2
          | true => rfl
      · left; omega
    clear ho
    rcases h' with h | ⟨⟨h1, h2, h3, h4⟩, rfl, h5⟩
    · go_enter Tryd.func11, Tryd.ntmps11
      go_wp2_with fail
      all_goals (first | (exfalso; omega) | (go_ret; exact ⟨rfl, by (repeat (first | assumption | exact Ext.refl _ | refine Ext.drew ?_ | refine Ext.alloc ?_ _ | refine Ext.drewN ?_ _ | refine Ext.trans ?_ (by assumption)))⟩))
    · go_enter Tryd.func11, Tryd.ntmps11
      go_wp2
      go_ret
      exact ⟨rfl, by (repeat (first | assumption | exact Ext.refl _ | refine Ext.drew ?_ | refine Ext.alloc ?_ _ | refine Ext.drewN ?_ _ | refine Ext.trans ?_ (by assumption)))⟩
set_option maxHeartbeats 1000000 in
set_option maxRecDepth 100000 in
theorem refcheck_any (r : Int) (p : ByteArray) (x : Bool) (u : Int) (w : World) (hs : p.size ≤ 9223372036854775807) : Calls Tryd.prog 17 #[.agg #[.int .i64 r, .string p, .bool x, .int .i64 u]] w fun e w' => e = .returned (.int .i64 (checkG r p x u)) ∧ Ext w w' := by
  by_cases ho : okG r p x u = true
  · by_cases hp : prefd p = true
    · have e : checkG r p x u = 0 := by unfold checkG; rw [if_pos ho, if_pos hp]
      rw [e]
      simp only [okG, Bool.and_eq_true, decide_eq_true_eq, Bool.not_eq_true', Bool.and_eq_false_iff] at ho
      obtain ⟨⟨h1, h2, h3, h4⟩, h5⟩ := ho
      have HP := Lib.hid hp
      clear e hp
      rcases h5 with rfl | h5
      all_goals
        go_enter Tryd.func17, Tryd.ntmps17
        go_wp2_with (go_at_call 39; refine (refprefix_any _ _ hs).mono ?_; rw [HP.out]; rintro e w' ⟨rfl, hb⟩)
        all_goals (go_ret; exact ⟨rfl, by (repeat (first | assumption | exact Ext.refl _ | refine Ext.drew ?_ | refine Ext.alloc ?_ _ | refine Ext.drewN ?_ _ | refine Ext.trans ?_ (by assumption)))⟩)
    · have e : checkG r p x u = 10 := by unfold checkG; rw [if_pos ho, if_neg hp]
      rw [e]
      simp only [okG, Bool.and_eq_true, decide_eq_true_eq, Bool.not_eq_true', Bool.and_eq_false_iff] at ho
      obtain ⟨⟨h1, h2, h3, h4⟩, h5⟩ := ho
      have HP := Lib.hid (eq_false_of_ne_true hp)
      clear e hp
      rcases h5 with rfl | h5
      all_goals
        go_enter Tryd.func17, Tryd.ntmps17
        go_wp2_with (go_at_call 39; refine (refprefix_any _ _ hs).mono ?_; rw [HP.out]; rintro e w' ⟨rfl, hb⟩)
        all_goals (go_ret; exact ⟨rfl, by (repeat (first | assumption | exact Ext.refl _ | refine Ext.drew ?_ | refine Ext.alloc ?_ _ | refine Ext.drewN ?_ _ | refine Ext.trans ?_ (by assumption)))⟩)
  · have e : checkG r p x u = 1 := by unfold checkG; rw [if_neg ho]
    rw [e]
    clear e
    have h' : (r < 1 ∨ 127 < r ∨ u < 0 ∨ 1099511627776 < u) ∨ ((1 ≤ r ∧ r ≤ 127 ∧ 0 ≤ u ∧ u ≤ 1099511627776) ∧ x = true ∧ p.toList.isEmpty = true) := by
      simp only [okG, Bool.and_eq_true, decide_eq_true_eq, Bool.not_eq_true', Bool.and_eq_false_iff] at ho
      by_cases h : 1 ≤ r ∧ r ≤ 127 ∧ 0 ≤ u ∧ u ≤ 1099511627776
      · right
        refine ⟨h, ?_⟩
        have h2 := fun h3 => ho ⟨h, h3⟩
        cases x with
        | false => exact absurd (.inl rfl) h2
        | true =>
          refine ⟨rfl, ?_⟩
          cases h4 : p.toList.isEmpty with
          | false => exact absurd (.inr h4) h2
          | true => rfl
      · left; omega
    clear ho
    rcases h' with h | ⟨⟨h1, h2, h3, h4⟩, rfl, h5⟩
    · go_enter Tryd.func17, Tryd.ntmps17
      go_wp2_with fail
      all_goals (first | (exfalso; omega) | (go_ret; exact ⟨rfl, by (repeat (first | assumption | exact Ext.refl _ | refine Ext.drew ?_ | refine Ext.alloc ?_ _ | refine Ext.drewN ?_ _ | refine Ext.trans ?_ (by assumption)))⟩))
    · go_enter Tryd.func17, Tryd.ntmps17
      go_wp2
      go_ret
      exact ⟨rfl, by (repeat (first | assumption | exact Ext.refl _ | refine Ext.drew ?_ | refine Ext.alloc ?_ _ | refine Ext.drewN ?_ _ | refine Ext.trans ?_ (by assumption)))⟩
end Go.Proofs.YtmdjndhebgnjoaaDoor
