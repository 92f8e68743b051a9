/- Grants: covering, being whole, being within. -/
import Derived.Test.YtmdjndhebgnjoaaDoorRightB
namespace Go.Proofs.YtmdjndhebgnjoaaDoor
set_option linter.unusedVariables false
set_option linter.unusedSimpArgs false
open Go.RowKit Go.Shelf
set_option maxHeartbeats 1000000 in
set_option maxRecDepth 100000 in
theorem covers_any (r : Int) (p : ByteArray) (x : Bool) (u right : Int) (s : ByteArray) (w : World) : Calls Tryd.prog 13 #[.agg #[.int .i64 r, .string p, .bool x, .int .i64 u], .int .i64 right, .string s] w fun e w' => e = .returned (.bool (coversG r p x right s)) ∧ Ext w w' := by
  obtain ⟨W, hW, hE, b1⟩ := box1 w #[.int .i64 r, .string p, .bool x, .int .i64 u] 23
  have c0 := b1 0 _ rfl
  have c1 := b1 1 _ rfl
  have c2 := b1 2 _ rfl
  have c3 := b1 3 _ rfl
  clear b1
  by_cases h : hasR r right = true
  · have e : coversG r p x right s = holdsS p x s := by unfold coversG; rw [h]; rfl
    rw [e]
    have HH := Lib.hid h
    clear e h
    go_enter Tryd.func13, Tryd.ntmps13
    go_wp2_with fail
    rw [← hW]
    clear hW
    refine (has_any _ _ _).mono ?_
    rw [HH.out]
    rintro e w' ⟨rfl, rfl⟩
    go_wp2_with (first | (go_at_call 33; refine (scopeOf_any _ _ _ _ _).mono ?_; rintro e w' ⟨rfl, hb⟩) | (go_at_call 35; refine (holds_any _ _ _ _).mono ?_; rintro e w' ⟨rfl, hb⟩))
    go_ret
    exact ⟨rfl, by (repeat (first | assumption | exact Ext.refl _ | refine Ext.drew ?_ | refine Ext.alloc ?_ _ | refine Ext.drewN ?_ _ | refine Ext.trans ?_ (by assumption)))⟩
  · have h' := eq_false_of_ne_true h
    have e : coversG r p x right s = false := by unfold coversG; rw [h']; rfl
    rw [e]
    have HH := Lib.hid h'
    clear e h h'
    go_enter Tryd.func13, Tryd.ntmps13
    go_wp2_with fail
    rw [← hW]
    clear hW
    refine (has_any _ _ _).mono ?_
    rw [HH.out]
    rintro e w' ⟨rfl, rfl⟩
    go_wp2
    go_ret
    exact ⟨rfl, by (repeat (first | assumption | exact Ext.refl _ | refine Ext.drew ?_ | refine Ext.alloc ?_ _ | refine Ext.drewN ?_ _ | refine Ext.trans ?_ (by assumption)))⟩
set_option maxHeartbeats 1000000 in
set_option maxRecDepth 100000 in
theorem whole_any (r : Int) (p : ByteArray) (x : Bool) (u : Int) (w : World) : Calls Tryd.prog 19 #[.agg #[.int .i64 r, .string p, .bool x, .int .i64 u]] w fun e w' => e = .returned (.bool (wholeG p x)) ∧ Ext w w' := by
  go_enter Tryd.func19, Tryd.ntmps19
  go_wp2_with (go_at_call 33; refine (scopeOf_any _ _ _ _ _).mono ?_; rintro e w' ⟨rfl, hb⟩)
  all_goals
    go_ret
    refine ⟨ret_bool ?_, by (repeat (first | assumption | exact Ext.refl _ | refine Ext.drew ?_ | refine Ext.alloc ?_ _ | refine Ext.drewN ?_ _ | refine Ext.trans ?_ (by assumption)))⟩
    simp [wholeG, *]
set_option maxHeartbeats 1000000 in
set_option maxRecDepth 100000 in
theorem refwhole_any (r : Int) (p : ByteArray) (x : Bool) (u : Int) (w : World) : Calls Tryd.prog 20 #[.agg #[.int .i64 r, .string p, .bool x, .int .i64 u]] w fun e w' => e = .returned (.bool (wholeG p x)) ∧ Ext w w' := by
  cases x with
  | true =>
    have e : wholeG p true = false := by unfold wholeG; simp
    rw [e]
    clear e
    go_enter Tryd.func20, Tryd.ntmps20
    go_wp2
    go_ret
    exact ⟨rfl, by (repeat (first | assumption | exact Ext.refl _ | refine Ext.drew ?_ | refine Ext.alloc ?_ _ | refine Ext.drewN ?_ _ | refine Ext.trans ?_ (by assumption)))⟩
  | false =>
    have e : wholeG p false = p.toList.isEmpty := by unfold wholeG; simp
    rw [e]
    clear e
    go_enter Tryd.func20, Tryd.ntmps20
    go_wp2
    go_ret
    exact ⟨by simp, by (repeat (first | assumption | exact Ext.refl _ | refine Ext.drew ?_ | refine Ext.alloc ?_ _ | refine Ext.drewN ?_ _ | refine Ext.trans ?_ (by assumption)))⟩
set_option maxHeartbeats 1000000 in
set_option maxRecDepth 100000 in
theorem narrow_any (r : Int) (p : ByteArray) (x : Bool) (u r' : Int) (p' : ByteArray) (x' : Bool) (u' : Int) (w : World) : Calls Tryd.prog 12 #[.agg #[.int .i64 r, .string p, .bool x, .int .i64 u], .agg #[.int .i64 r', .string p', .bool x', .int .i64 u']] w fun e w' => e = .returned (.bool (narrowG r p x u r' p' x' u')) ∧ Ext w w' := by
  obtain ⟨W, hW, hE, b1, b2⟩ := box2 w #[.int .i64 r, .string p, .bool x, .int .i64 u] #[.int .i64 r', .string p', .bool x', .int .i64 u'] 23 23
  have c0 := b1 0 _ rfl
  have c1 := b1 1 _ rfl
  have c2 := b1 2 _ rfl
  have c3 := b1 3 _ rfl
  have d0 := b2 0 _ rfl
  have d1 := b2 1 _ rfl
  have d2 := b2 2 _ rfl
  have d3 := b2 3 _ rfl
  clear b1 b2
  have r0 := fun (w' : World) (h : Ext W w') => h.cellk c0
  have s0 := fun (w' : World) (h : Ext W w') => h.cellk d0
  have r1 := fun (w' : World) (h : Ext W w') => h.cellk c1
  have s1 := fun (w' : World) (h : Ext W w') => h.cellk d1
  have r2 := fun (w' : World) (h : Ext W w') => h.cellk c2
  have s2 := fun (w' : World) (h : Ext W w') => h.cellk d2
  have r3 := fun (w' : World) (h : Ext W w') => h.cellk c3
  have s3 := fun (w' : World) (h : Ext W w') => h.cellk d3
  by_cases he : earlyG u u' = true
  · by_cases hh : hasR r r' = true
    · have e : narrowG r p x u r' p' x' u' = withinS p x p' x' := by unfold narrowG; rw [he, hh]; rfl
      rw [e]
      have HH := Lib.hid hh
      clear e hh
      simp only [earlyG, decide_eq_true_eq] at he
      by_cases hu : u = 0
      · have hu0 : (u == 0) = true := by simp [hu]
        clear hu he
        go_enter Tryd.func12, Tryd.ntmps12
        go_wp2_with fail
        rw [← hW]
        clear hW
        go_region_held3 (fun w' => Ext W w') (((repeat (first | assumption | exact Ext.refl _ | refine Ext.drew ?_ | refine Ext.drewN ?_ _ | refine Ext.alloc ?_ _ | (refine Ext.set ?_ (Ext.le (by assumption)) _) | (refine Ext.set ?_ (Nat.le_refl _) _) | refine Ext.trans ?_ (by assumption))); done)) (first | (go_at_call 32; refine (has_any _ _ _).mono ?_; rw [HH.out]; rintro e w' ⟨rfl, rfl⟩) | (go_at_call 33; refine (scopeOf_any _ _ _ _ _).mono ?_; rintro e w' ⟨rfl, hb⟩) | (go_at_call 34; refine (within_any _ _ _ _ _).mono ?_; rintro e w' ⟨rfl, hb⟩))
        go_wp2
        go_ret
        exact ⟨rfl, by (repeat (first | assumption | exact Ext.refl _ | refine Ext.drew ?_ | refine Ext.alloc ?_ _ | refine Ext.drewN ?_ _ | refine Ext.trans ?_ (by assumption)))⟩
      · have hu0 : (u == 0) = false := by simp [hu]
        obtain ⟨h1, h2⟩ : 1 ≤ u' ∧ u' ≤ u := by omega
        clear hu he
        go_enter Tryd.func12, Tryd.ntmps12
        go_wp2_with fail
        rw [← hW]
        clear hW
        go_region_held3 (fun w' => Ext W w') (((repeat (first | assumption | exact Ext.refl _ | refine Ext.drew ?_ | refine Ext.drewN ?_ _ | refine Ext.alloc ?_ _ | (refine Ext.set ?_ (Ext.le (by assumption)) _) | (refine Ext.set ?_ (Nat.le_refl _) _) | refine Ext.trans ?_ (by assumption))); done)) (first | (go_at_call 32; refine (has_any _ _ _).mono ?_; rw [HH.out]; rintro e w' ⟨rfl, rfl⟩) | (go_at_call 33; refine (scopeOf_any _ _ _ _ _).mono ?_; rintro e w' ⟨rfl, hb⟩) | (go_at_call 34; refine (within_any _ _ _ _ _).mono ?_; rintro e w' ⟨rfl, hb⟩))
        go_wp2
        go_ret
        exact ⟨rfl, by (repeat (first | assumption | exact Ext.refl _ | refine Ext.drew ?_ | refine Ext.alloc ?_ _ | refine Ext.drewN ?_ _ | refine Ext.trans ?_ (by assumption)))⟩
    · have hh' := eq_false_of_ne_true hh
      have e : narrowG r p x u r' p' x' u' = false := by unfold narrowG; rw [he, hh']; rfl
      rw [e]
      have HH := Lib.hid hh'
      clear e hh hh'
      simp only [earlyG, decide_eq_true_eq] at he
      by_cases hu : u = 0
      · have hu0 : (u == 0) = true := by simp [hu]
        clear hu he
        go_enter Tryd.func12, Tryd.ntmps12
        go_wp2_with fail
        rw [← hW]
        clear hW
        go_quiet ((go_at_call 32; exact Calls.quiet_of_same (has_val _ _ _ HH.out _)))
        go_wp2
        go_ret
        exact ⟨rfl, by (repeat (first | assumption | exact Ext.refl _ | refine Ext.drew ?_ | refine Ext.alloc ?_ _ | refine Ext.drewN ?_ _ | refine Ext.trans ?_ (by assumption)))⟩
      · have hu0 : (u == 0) = false := by simp [hu]
        obtain ⟨h1, h2⟩ : 1 ≤ u' ∧ u' ≤ u := by omega
        clear hu he
        go_enter Tryd.func12, Tryd.ntmps12
        go_wp2_with fail
        rw [← hW]
        clear hW
        go_quiet ((go_at_call 32; exact Calls.quiet_of_same (has_val _ _ _ HH.out _)))
        go_wp2
        go_ret
        exact ⟨rfl, by (repeat (first | assumption | exact Ext.refl _ | refine Ext.drew ?_ | refine Ext.alloc ?_ _ | refine Ext.drewN ?_ _ | refine Ext.trans ?_ (by assumption)))⟩
  · have he' := eq_false_of_ne_true he
    have e : narrowG r p x u r' p' x' u' = false := by unfold narrowG; rw [he']; rfl
    rw [e]
    simp only [earlyG, decide_eq_true_eq] at he
    have hu0 : (u == 0) = false := by simp; omega
    by_cases h1 : 1 ≤ u'
    · have h2 : u < u' := by omega
      have hd : decide (u' ≤ u) = false := by simp; omega
      clear e he he'
      go_enter Tryd.func12, Tryd.ntmps12
      go_wp2_with fail
      rw [← hW]
      clear hW
      go_quiet (fail)
      go_wp2
      go_ret
      exact ⟨rfl, by (repeat (first | assumption | exact Ext.refl _ | refine Ext.drew ?_ | refine Ext.alloc ?_ _ | refine Ext.drewN ?_ _ | refine Ext.trans ?_ (by assumption)))⟩
    · have h2 : u' < 1 := by omega
      have hd : decide (1 ≤ u') = false := by simp; omega
      clear e he he'
      go_enter Tryd.func12, Tryd.ntmps12
      go_wp2_with fail
      rw [← hW]
      clear hW
      go_quiet (fail)
      go_wp2
      go_ret
      exact ⟨rfl, by (repeat (first | assumption | exact Ext.refl _ | refine Ext.drew ?_ | refine Ext.alloc ?_ _ | refine Ext.drewN ?_ _ | refine Ext.trans ?_ (by assumption)))⟩
set_option maxHeartbeats 1000000 in
set_option maxRecDepth 100000 in
theorem refcovers_any (r : Int) (p : ByteArray) (x : Bool) (u right : Int) (s : ByteArray) (w : World) (hr : (Lit.int .i64 r).wf = true) (hq : (Lit.int .i64 right).wf = true) (hp : p.size ≤ 9223372036854775807) : Calls Tryd.prog 18 #[.agg #[.int .i64 r, .string p, .bool x, .int .i64 u], .int .i64 right, .string s] w fun e w' => e = .returned (.bool (coversG r p x right s)) ∧ Ext w w' := by
  obtain ⟨W, hW, hE, b1⟩ := box1 w #[.int .i64 r, .string p, .bool x, .int .i64 u] 23
  have c0 := b1 0 _ rfl
  have c1 := b1 1 _ rfl
  have c2 := b1 2 _ rfl
  have c3 := b1 3 _ rfl
  clear b1
  by_cases h0 : hasR r right = true
  · have h := h0
    cases x with
    | true =>
      have e : coversG r p true right s = (s.toList == p.toList) := by unfold coversG holdsS; rw [h0]; rfl
      rw [e]
      clear e h0
      have HH := Lib.hid h
      clear h
      go_enter Tryd.func18, Tryd.ntmps18
      go_wp2_with fail
      rw [← hW]
      clear hW
      refine (refhas_any _ _ _ hr hq).mono ?_
      rw [HH.out]
      rintro e w' ⟨rfl, rfl⟩
      go_wp2_with (go_at_call 41; refine (begins_any _ _ _ hp).mono ?_; rintro e w' ⟨rfl, hb⟩)
      go_ret
      exact ⟨by simp, by (repeat (first | assumption | exact Ext.refl _ | refine Ext.drew ?_ | refine Ext.alloc ?_ _ | refine Ext.drewN ?_ _ | refine Ext.trans ?_ (by assumption)))⟩
    | false =>
      have e : coversG r p false right s = pre s p := by unfold coversG holdsS; rw [h0]; rfl
      rw [e]
      clear e h0
      have HH := Lib.hid h
      clear h
      go_enter Tryd.func18, Tryd.ntmps18
      go_wp2_with fail
      rw [← hW]
      clear hW
      refine (refhas_any _ _ _ hr hq).mono ?_
      rw [HH.out]
      rintro e w' ⟨rfl, rfl⟩
      go_wp2_with (go_at_call 41; refine (begins_any _ _ _ hp).mono ?_; rintro e w' ⟨rfl, hb⟩)
      go_ret
      exact ⟨rfl, by (repeat (first | assumption | exact Ext.refl _ | refine Ext.drew ?_ | refine Ext.alloc ?_ _ | refine Ext.drewN ?_ _ | refine Ext.trans ?_ (by assumption)))⟩
  · have h := eq_false_of_ne_true h0
    have e : coversG r p x right s = false := by unfold coversG; rw [h]; rfl
    rw [e]
    clear e h0
    cases x
    all_goals
      have HH := Lib.hid h
      clear h
      go_enter Tryd.func18, Tryd.ntmps18
      go_wp2_with fail
      rw [← hW]
      clear hW
      refine (refhas_any _ _ _ hr hq).mono ?_
      rw [HH.out]
      rintro e w' ⟨rfl, rfl⟩
      go_wp2_with (go_at_call 41; refine (begins_any _ _ _ hp).mono ?_; rintro e w' ⟨rfl, hb⟩)
      go_ret
      exact ⟨rfl, by (repeat (first | assumption | exact Ext.refl _ | refine Ext.drew ?_ | refine Ext.alloc ?_ _ | refine Ext.drewN ?_ _ | refine Ext.trans ?_ (by assumption)))⟩
set_option maxHeartbeats 1000000 in
set_option maxRecDepth 100000 in
theorem refnarrow_any (r : Int) (p : ByteArray) (x : Bool) (u r' : Int) (p' : ByteArray) (x' : Bool) (u' : Int) (w : World) (hr : (Lit.int .i64 r).wf = true) (hq : (Lit.int .i64 r').wf = true) (hp : p.size ≤ 9223372036854775807) : Calls Tryd.prog 21 #[.agg #[.int .i64 r, .string p, .bool x, .int .i64 u], .agg #[.int .i64 r', .string p', .bool x', .int .i64 u']] w fun e w' => e = .returned (.bool (narrowG r p x u r' p' x' u')) ∧ Ext w w' := by
  obtain ⟨W, hW, hE, b1, b2⟩ := box2 w #[.int .i64 r, .string p, .bool x, .int .i64 u] #[.int .i64 r', .string p', .bool x', .int .i64 u'] 23 23
  have c0 := b1 0 _ rfl
  have c1 := b1 1 _ rfl
  have c2 := b1 2 _ rfl
  have c3 := b1 3 _ rfl
  have d0 := b2 0 _ rfl
  have d1 := b2 1 _ rfl
  have d2 := b2 2 _ rfl
  have d3 := b2 3 _ rfl
  clear b1 b2
  go_enter Tryd.func21, Tryd.ntmps21
  go_wp2_with fail
  rw [← hW]
  clear hW
  refine (refhas_any _ _ _ hr hq).mono ?_
  by_cases hh : hasR r r' = true
  · rw [hh]
    rintro e w' ⟨rfl, rfl⟩
    cases x with
    | true =>
      cases x' with
      | false =>
        have e : narrowG r p true u r' p' false u' = false := by unfold narrowG withinS; simp
        have HN := Lib.hid e
        clear e
        go_wp2
        go_ret
        exact ⟨ret_bool HN.out.symm, by (repeat (first | assumption | exact Ext.refl _ | refine Ext.drew ?_ | refine Ext.alloc ?_ _ | refine Ext.drewN ?_ _ | refine Ext.trans ?_ (by assumption)))⟩
      | true =>
        by_cases hpp : (p.toList == p'.toList) = true
        · have hpre : pre p' p = true := by
            rw [pre_iff, ← ByteArray.toList_eq, ← ByteArray.toList_eq, beq_iff_eq.1 hpp]
            exact List.prefix_refl _
          have e : narrowG r p true u r' p' true u' = earlyG u u' := by
            unfold narrowG withinS holdsS; rw [hh, beq_iff_eq.1 hpp]; simp
          have HN := Lib.hid e
          have HP := Lib.hid hpre
          have hne : (!p.toList == p'.toList) = false := by rw [hpp]; rfl
          clear e hpre hpp
          go_wp2_with (go_at_call 41; refine (begins_any _ _ _ hp).mono ?_; rw [HP.out]; rintro e w' ⟨rfl, hb⟩; have g3 := hb.cellk c3; have k3 := hb.cellk d3)
          all_goals
            go_ret
            refine ⟨ret_bool ?_, by (repeat (first | assumption | exact Ext.refl _ | refine Ext.drew ?_ | refine Ext.alloc ?_ _ | refine Ext.drewN ?_ _ | refine Ext.trans ?_ (by assumption)))⟩
            rw [HN.out, Bool.eq_iff_iff]
            simp [earlyG]
            omega
        · have e : narrowG r p true u r' p' true u' = false := by
            unfold narrowG withinS holdsS
            have : (p'.toList == p.toList) = false := by
              rw [beq_eq_false_iff_ne]; intro h; apply hpp; rw [h]; simp
            simp [this]
          have HN := Lib.hid e
          have hne : (!p.toList == p'.toList) = true := by rw [eq_false_of_ne_true hpp]; rfl
          clear e hpp
          go_wp2
          go_ret
          exact ⟨ret_bool HN.out.symm, by (repeat (first | assumption | exact Ext.refl _ | refine Ext.drew ?_ | refine Ext.alloc ?_ _ | refine Ext.drewN ?_ _ | refine Ext.trans ?_ (by assumption)))⟩
    | false =>
      by_cases hpre : pre p' p = true
      · have e : narrowG r p false u r' p' x' u' = earlyG u u' := by
          unfold narrowG withinS holdsS; rw [hh, hpre]; simp
        have HN := Lib.hid e
        have HP := Lib.hid hpre
        clear e hpre
        go_wp2_with (go_at_call 41; refine (begins_any _ _ _ hp).mono ?_; rw [HP.out]; rintro e w' ⟨rfl, hb⟩; have g3 := hb.cellk c3; have k3 := hb.cellk d3)
        all_goals
          go_ret
          refine ⟨ret_bool ?_, by (repeat (first | assumption | exact Ext.refl _ | refine Ext.drew ?_ | refine Ext.alloc ?_ _ | refine Ext.drewN ?_ _ | refine Ext.trans ?_ (by assumption)))⟩
          rw [HN.out, Bool.eq_iff_iff]
          simp [earlyG]
          omega
      · have e : narrowG r p false u r' p' x' u' = false := by
          unfold narrowG withinS holdsS; rw [eq_false_of_ne_true hpre]; simp
        have HN := Lib.hid e
        have HP := Lib.hid (eq_false_of_ne_true hpre)
        clear e hpre
        go_wp2_with (go_at_call 41; refine (begins_any _ _ _ hp).mono ?_; rw [HP.out]; rintro e w' ⟨rfl, hb⟩)
        go_ret
        exact ⟨ret_bool HN.out.symm, by (repeat (first | assumption | exact Ext.refl _ | refine Ext.drew ?_ | refine Ext.alloc ?_ _ | refine Ext.drewN ?_ _ | refine Ext.trans ?_ (by assumption)))⟩
  · have h := eq_false_of_ne_true hh
    have e : narrowG r p x u r' p' x' u' = false := by unfold narrowG; rw [h]; simp
    have HN := Lib.hid e
    rw [h]
    rintro e w' ⟨rfl, rfl⟩
    clear e
    go_wp2
    go_ret
    exact ⟨ret_bool HN.out.symm, by (repeat (first | assumption | exact Ext.refl _ | refine Ext.drew ?_ | refine Ext.alloc ?_ _ | refine Ext.drewN ?_ _ | refine Ext.trans ?_ (by assumption)))⟩
end Go.Proofs.YtmdjndhebgnjoaaDoor
