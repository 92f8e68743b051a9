/- The reader of the document's answer: it reads what the program's reads. -/
import Derived.Test.YtkmjnbfhfjafpaaDoorReaderC
import Derived.Test.YtkmjnbfhfjafpaaDoorRef07
import Derived.Test.YtkmjnbfhfjafpaaDoorPlain
namespace Go.Proofs.YtkmjnbfhfjafpaaDoor
set_option linter.unusedVariables false
set_option linter.unusedSimpArgs false
open Go.RowKit
/-- At block g stands a reader of the document's answer: what is left, the error that has stuck. -/
def RefAt (w : World) (lo g : Nat) (bs : List UInt8) (why : Int) : Prop :=
  ∃ (B : List UInt8) (i : Nat) (A : Option Addr) (c : Nat), Blk w g 85 #[.slice A B.length c, .int .i64 i, .int .i64 why] ∧ B.length ≤ c ∧ B.length ≤ 4294967296 ∧ i ≤ B.length ∧ (why = 0 → bs = B.drop i) ∧ (why ≠ 0 → bs = []) ∧ Rd.u8.Sl (only w lo g) A B.length B
theorem RefAt.ext {w w' : World} {lo g : Nat} {bs : List UInt8} {why : Int} (hR : RefAt w lo g bs why) (hE : Ext w w') : RefAt w' lo g bs why := by
  obtain ⟨B, i, A, c, hB, h1, h2, h3, h4, h5, h6⟩ := hR
  refine ⟨B, i, A, c, hE.blk hB, h1, h2, h3, h4, h5, ?_⟩
  rw [only_ext hE (Nat.le_of_lt hB.lt)]
  exact h6
theorem RefAt.exc {w w' : World} {lo g l h : Nat} {bs : List UInt8} {why : Int} (hR : RefAt w lo g bs why) (hX : Exc l h w w') (hd : g < l ∨ (h ≤ lo ∧ h ≤ g)) : RefAt w' lo g bs why := by
  obtain ⟨B, i, A, c, hB, h1, h2, h3, h4, h5, h6⟩ := hR
  have hg := hB.lt
  refine ⟨B, i, A, c, (hX.block g hg (by omega)).trans hB, h1, h2, h3, h4, h5, ?_⟩
  rw [hX.only (Nat.le_of_lt hg) (by omega)]
  exact h6
set_option maxHeartbeats 1000000 in
set_option maxRecDepth 100000 in
theorem refLeft_any (w : World) (lo g : Nat) (bs : List UInt8) (why : Int) (hR : RefAt w lo g bs why) :
    Calls Tryd.prog 76 #[.pointer (some ⟨g, 0, none⟩)] w fun e w' => e = .returned (.int .i64 bs.length) ∧ Ext w w' := by
  obtain ⟨B, i, A, c, hB, h1, h2, h3, h4, h5, h6⟩ := hR
  have x0 := hB.cell 0 (v := .slice A B.length c) rfl
  have x1 := hB.cell 1 (v := .int .i64 i) rfl
  have x2 := hB.cell 2 (v := .int .i64 why) rfl
  obtain ⟨m, hm⟩ : ∃ m, bs.length = m := ⟨_, rfl⟩
  rw [hm]
  by_cases hy : why = 0
  · subst hy
    have hl : m = B.length - i := by rw [← hm, h4 rfl, List.length_drop]
    obtain ⟨n, hn⟩ : ∃ n, B.length = n := ⟨_, rfl⟩
    rw [hn] at hl x0 h2 h3
    have r0 := fun (w' : World) (h : Ext w w') => h.cellk x0
    have r1 := fun (w' : World) (h : Ext w w') => h.cellk x1
    have hY : Ext w w := Ext.refl w
    have HL := Lib.hid hl
    clear hB h1 h4 h5 h6 hm hn hl x0 x1
    go_enter Tryd.func76, Tryd.ntmps76
    go_wp2_with fail
    clear x2
    have hwr : IntKind.i64.wrap ((n : Int) - (i : Int)) = (n : Int) - (i : Int) := by rw [IntKind.wrap_i64]; omega
    refine st_start (fun _ w' => Ext w w') (fun _ => false) (by kernel_rfl) (by kernel_rfl) (by (repeat (first | assumption | exact Ext.refl _ | refine Ext.drew ?_ | refine Ext.alloc ?_ _ | refine Ext.drewN ?_ _ | refine Ext.trans ?_ (by assumption)))) ?_
    iterate 11 (first | (refine st_off (a' := ?_) rfl (by rfl) rfl ?_ ?_; rotate_left 1; (· simp only [Act.put, List.setIfInBounds_toArray, List.set_cons_zero, List.set_cons_succ]; rfl)) | (refine st_y (v := ?_) (a' := ?_) rfl (by rfl) rfl (fun k w' hw' => ?_) ?_ ?_; rotate_left 2; (· go_simp; with_reducible rfl); (· simp only [Act.put, List.setIfInBounds_toArray, List.set_cons_zero, List.set_cons_succ]; rfl)))
    refine st_end ?_
    intro w1 hY1
    go_wp2_with fail
    go_ret
    exact ⟨ret_int (by have := HL.out; omega), hY1⟩
  · have hm0 : m = 0 := by rw [← hm, h5 hy]; rfl
    subst hm0
    have hy1 : (why == 0) = false := by simpa using hy
    have hy2 : (why != 0) = true := by simpa using hy
    clear hB h1 h4 h5 h6 hm
    go_enter Tryd.func76, Tryd.ntmps76
    go_wp2_with fail
    go_ret
    exact ⟨rfl, Ext.refl _⟩
set_option maxHeartbeats 1000000 in
set_option maxRecDepth 100000 in
theorem refEnd_any (w : World) (lo g : Nat) (bs : List UInt8) (why : Int) (hR : RefAt w lo g bs why) :
    Calls Tryd.prog 61 #[.pointer (some ⟨g, 0, none⟩)] w fun e w' => e = .returned (.int .i64 (if 0 < bs.length then 5 else why)) ∧ Ext w w' := by
  have hlf := refLeft_any w lo g bs why hR
  obtain ⟨B, i, A, c, hB, h1, h2, h3, h4, h5, h6⟩ := hR
  have x2 := hB.cell 2 (v := .int .i64 why) rfl
  obtain ⟨m, hm⟩ : ∃ m, bs.length = m := ⟨_, rfl⟩
  rw [hm] at hlf ⊢
  by_cases hy : why = 0
  · subst hy
    clear hB h1 h4 h5 h6 hm
    by_cases h0 : 0 < m
    · rw [if_pos h0]
      go_enter Tryd.func61, Tryd.ntmps61
      go_wp2_with (go_at_call 76; (with_reducible refine hlf.mono ?_); rintro e w1 ⟨rfl, hE1⟩; have x3 := hE1.cellk x2)
      go_ret
      exact ⟨rfl, hE1⟩
    · rw [if_neg h0]
      obtain rfl : m = 0 := by omega
      go_enter Tryd.func61, Tryd.ntmps61
      go_wp2_with (go_at_call 76; (with_reducible refine hlf.mono ?_); rintro e w1 ⟨rfl, hE1⟩; have x3 := hE1.cellk x2)
      go_ret
      exact ⟨rfl, hE1⟩
  · have hm0 : m = 0 := by rw [← hm, h5 hy]; rfl
    subst hm0
    have hy1 : (why == 0) = false := by simpa using hy
    have hy2 : (why != 0) = true := by simpa using hy
    rw [if_neg (by omega)]
    clear hB h1 h4 h5 h6 hm hlf
    go_enter Tryd.func61, Tryd.ntmps61
    go_wp2_with fail
    go_ret
    exact ⟨rfl, Ext.refl _⟩
theorem exec_slice_mid {P : Program} {t e : TypeId} {sz bytes : Nat} (E : Elt P t e sz bytes) {o : Oper} {a : Act} (x y z : Operand) (ho : o.op = .slice t x (some y) (some z) none) (A : Option Addr) (n c i j : Nat) (hx : a.eval x = .slice A n c) (hy : a.eval y = .int .i64 (i : Int)) (hz : a.eval z = .int .i64 (j : Int)) (hij : i ≤ j) (hjc : j ≤ c) (w : World) :
    (execOp a.eval o).run P w = .ok (.value (.slice (restA A c i sz) (j - i) (c - i))) w := by
  obtain ⟨inf, zz, hi, hz0, hsz, hby, hzc⟩ := E.hi
  have h0 := E.ht
  have he : P.elem t = e := by simp [Program.elem, h0]
  have h2 : P.underlying t = some (.slice (P.elem t)) := by rw [he]; exact h0
  unfold execOp
  simp only [ho, hx, hy, hz, Sem.run_bind, Option.map_some, Option.map_none]
  rw [run_sliceAt_slice _ t _ _ _ _ h2, run_slice_lh _ t A n c h2 .i64 .i64 i j (by omega) (by omega) (by omega), he]
  simp [sizeOf, typeInfo, hi, hsz, sliced, restA, Result.andThen]
/-- What a reading method of the document's reader leaves: new memory, and the reader. -/
def NextP (lo g : Nat) (w : World) (r : List UInt8 × List UInt8 × Int) (e : Ending) (w' : World) : Prop := ∃ u, e = .returned u ∧ w'.ownsRow w.heap.size 5 1 u r.1.length (r.1.flatMap encB) ∧ RefAt w' lo g r.2.1 r.2.2 ∧ Exc g (g + 1) w w'
set_option maxHeartbeats 1000000 in
set_option maxRecDepth 100000 in
theorem next_any (w : World) (lo g : Nat) (bs : List UInt8) (why : Int) (hR : RefAt w lo g bs why) (n : Nat) (hn : n ≤ 1099511627776) :
    Calls Tryd.prog 75 #[.pointer (some ⟨g, 0, none⟩), .int .i64 n] w (NextP lo g w (takeG n bs why)) := by
  have hlf := refLeft_any w lo g bs why hR
  obtain ⟨B, i, A, c, hB, h1, h2, h3, h4, h5, h6⟩ := id hR
  have x1 := hB.cell 1 (v := .int .i64 i) rfl
  have x2 := hB.cell 2 (v := .int .i64 why) rfl
  obtain ⟨r, hr⟩ : ∃ r, takeG n bs why = r := ⟨_, rfl⟩
  rw [hr]
  obtain ⟨m, hm⟩ : ∃ m, bs.length = m := ⟨_, rfl⟩
  rw [hm] at hlf
  by_cases hy : why = 0
  · subst hy
    by_cases hlt : m < n
    · have hr1 : r = ([], [], 4) := by rw [← hr]; unfold takeG; rw [if_pos (by omega), if_pos rfl]
      have HR := Lib.hid hr1
      clear hr hr1 hm
      have hfin : ∀ w1 : World, Ext w w1 → RefAt (w1.setCell ⟨g, 2, none⟩ (.int .i64 4)) lo g [] 4 := fun w1 hE => ⟨B, i, A, c, (Blk.ext hB hE).set_ 2 (.int .i64 4), h1, h2, h3, (fun h => by cases h), (fun _ => rfl), by
        rw [(Exc.setCell (lo := g) (hi := g + 1) (p := ⟨g, 2, none⟩) (Nat.le_refl g) (Nat.lt_succ_self g) (.int .i64 4)).only (Nat.le_of_lt (Blk.ext hB hE).lt) (.inl (Nat.le_refl _)), only_ext hE (Nat.le_of_lt hB.lt)]; exact h6⟩
      have hX := fun (w1 : World) (hE : Ext w w1) => (Ext.exc hE).trans (Exc.setCell (lo := g) (hi := g + 1) (w := w1) (p := ⟨g, 2, none⟩) (Nat.le_refl g) (Nat.lt_succ_self g) (.int .i64 4))
      have f2 := fun (w1 : World) (hE : Ext w w1) => (Blk.ext hB hE).frozen 2
      clear h6 h4 h5 hR hB x1
      go_enter Tryd.func75, Tryd.ntmps75
      go_wp2_with (go_at_call 76; (with_reducible refine hlf.mono ?_); rintro e w1 ⟨rfl, hE1⟩; have x3 := hE1.cellk x2; have f3 := f2 w1 hE1)
      go_ret
      rw [HR.out]
      exact ⟨_, rfl, World.ownsRow_nil _ _ _ _, hfin w1 hE1, hX w1 hE1⟩
    · have hr1 : r = (bs.take n, bs.drop n, 0) := by rw [← hr]; unfold takeG; rw [if_neg (by omega)]
      have HR := Lib.hid hr1
      have hbs := h4 rfl
      have hl : m = B.length - i := by rw [← hm, hbs, List.length_drop]
      have hS := sl_rest h6 c i h3 h1
      rw [← hbs] at hS
      have htl : (bs.take n).length = n := by rw [List.length_take]; omega
      have hS1 : Rd.u8.Sl (only w lo g) (restA A c i 1) n (bs.take n) := ⟨htl, fun h0 => by
        obtain ⟨b, o, e, hc⟩ := hS.2 (by omega)
        refine ⟨b, o, e, fun i hi => ?_⟩
        rw [htl] at hi
        rw [List.getElem_take]
        exact hc i (by omega)⟩
      obtain ⟨bl, hbl⟩ : ∃ bl, B.length = bl := ⟨_, rfl⟩
      have f1 := fun (w1 : World) (hE : Ext w w1) => (Blk.ext hB hE).frozen 1
      have hg := hB.lt
      clear hr hr1 hm h4 h5 hR hS
      rw [hbl] at h1 h2 h3 h6 hl hB
      go_enter Tryd.func75, Tryd.ntmps75
      go_upto_region 6 with (go_at_call 76; (with_reducible refine hlf.mono ?_); rintro e w1 ⟨rfl, hE1⟩; have x3 := hE1.cellk x2; have x4 := hE1.cellk x1; have f3 := f1 w1 hE1)
      obtain ⟨w2, hw2⟩ : ∃ w2, w1.setCell ⟨g, 1, none⟩ (.int .i64 ((i : Int) + (n : Int))) = w2 := ⟨_, rfl⟩
      have hB2 : Blk w2 g 85 #[.slice A bl c, .int .i64 ((i : Int) + (n : Int)), .int .i64 0] := by rw [← hw2]; exact (Blk.ext hB hE1).set_ 1 _
      have hX2 : Exc g (g + 1) w w2 := by rw [← hw2]; exact (Ext.exc hE1).trans (Exc.setCell (Nat.le_refl g) (Nat.lt_succ_self g) _)
      have hO2 : only w2 lo g = only w lo g := hX2.only (Nat.le_of_lt hg) (.inl (Nat.le_refl _))
      rw [hw2]
      have y0 := hB2.cell 0 (v := .slice A bl c) rfl
      have y1 := hB2.cell 1 (v := .int .i64 ((i : Int) + (n : Int))) rfl
      have r0 := fun (w' : World) (h : Ext w2 w') => h.cellk y0
      have r1 := fun (w' : World) (h : Ext w2 w') => h.cellk y1
      rw [← hO2] at hS1 h6
      have hs1 : IntKind.i64.wrap (i : Int) = (i : Int) := by rw [IntKind.wrap_i64]; omega
      have hcp := fun (w' : World) (h : Ext w2 w') => copyBytes_any w' (restA A c i 1) (c - i) (bs.take n) (by rw [htl]; exact (hS1.mono only_cle).ext h) (by rw [htl]; omega) (by rw [htl]; omega)
      rw [htl] at hcp
      have hY : Ext w2 w2 := Ext.refl w2
      clear x3 x4 f3 x1 x2 f1 hw2 hlf hO2 y0 y1
      refine wp_region_noPanic ?_
      refine tr_start (.y 0 (.y 1 (.y 2 (.y 3 (.y 4 (.y 5 (.y 6 (.y 7 (.y 8 (.y 9 (.y 10 (.y 11 (.y 12 (.y 13 (.y 14 (.e 15 (.y 16 .nil))))))))))))))))) (fun w' => Ext w2 w') (by kernel_rfl) (by kernel_rfl) (fun _ _ _ _ _ h => h) (by (repeat (first | assumption | exact Ext.refl _ | refine Ext.drew ?_ | refine Ext.alloc ?_ _ | refine Ext.drewN ?_ _ | refine Ext.trans ?_ (by assumption)))) ?_
      have hYd : Ext w2 w2.drew := by (repeat (first | assumption | exact Ext.refl _ | refine Ext.drew ?_ | refine Ext.alloc ?_ _ | refine Ext.drewN ?_ _ | refine Ext.trans ?_ (by assumption)))
      generalize w2.drew = wd at hYd ⊢
      iterate 14 (first | (refine tr_off (a' := ?_) rfl rfl (by rfl) ?_ ?_; rotate_left 1; (· simp only [Act.put, List.setIfInBounds_toArray, List.set_cons_zero, List.set_cons_succ]; rfl)) | (refine tr_y (v := ?_) (a' := ?_) rfl rfl (by rfl) (fun w' hw' => ?_) ?_ ?_; rotate_left 2; (· go_simp; with_reducible rfl); (· simp only [Act.put, List.setIfInBounds_toArray, List.set_cons_zero, List.set_cons_succ]; rfl)))
      refine tr_y (v := .slice (restA A c i 1) (i + n - i) (c - i)) (a' := ?_) rfl rfl (by rfl) (fun w' hw' => exec_slice_mid elt_bytes (.tmp 36) (.tmp 42) (.tmp 46) rfl A bl c i (i + n) (by rfl) (by rfl) (by first | rfl | (show Value.int .i64 _ = Value.int .i64 _; congr 1; omega)) (by omega) (by omega) w') ?_ ?_
      rotate_left 1
      · simp only [Act.put, List.setIfInBounds_toArray, List.set_cons_zero, List.set_cons_succ]; rfl
      have hni : i + n - i = n := by omega
      rw [hni]
      clear hni hs1
      refine tr_call (args := ?_) rfl Tryd.func25 (by kernel_rfl) rfl (by rfl) rfl rfl ?_ ?_
      rotate_left 1
      · go_simp; rfl
      (with_reducible refine (hcp _ hYd).mono ?_)
      rintro e w3 ⟨u, rfl, hown, hE3⟩
      refine ⟨_, _, rfl, (hYd.trans hE3), (by simp only [Act.put, List.setIfInBounds_toArray, List.set_cons_zero, List.set_cons_succ]; rfl), ?_⟩
      (first | (refine tr_off (a' := ?_) rfl rfl (by rfl) ?_ ?_; rotate_left 1; (· simp only [Act.put, List.setIfInBounds_toArray, List.set_cons_zero, List.set_cons_succ]; rfl)) | (refine tr_y (v := ?_) (a' := ?_) rfl rfl (by rfl) (fun w' hw' => ?_) ?_ ?_; rotate_left 2; (· go_simp; with_reducible rfl); (· simp only [Act.put, List.setIfInBounds_toArray, List.set_cons_zero, List.set_cons_succ]; rfl)))
      refine tr_end (NoPanic.normal ?_)
      go_wp2_with fail
      go_ret
      rw [HR.out]
      have hE23 := hYd.trans hE3
      refine ⟨_, rfl, ?_, ⟨B, i + n, A, c, ?_, by rw [hbl]; exact h1, by rw [hbl]; exact h2, by rw [hbl]; omega, fun _ => ?_, fun h => absurd rfl h, ?_⟩, hX2.trans (Ext.exc hE23)⟩
      · show w3.ownsRow w.heap.size _ 1 _ (bs.take n).length _
        rw [htl]
        exact own_base hown (Nat.le_trans hX2.size hYd.le)
      · rw [hbl]
        have e : ((i + n : Nat) : Int) = (i : Int) + (n : Int) := by omega
        rw [e]
        exact Blk.ext hB2 hE23
      · show bs.drop n = B.drop (i + n)
        rw [hbs, List.drop_drop]
      · rw [hbl, only_ext hE23 (Nat.le_of_lt hB2.lt)]
        exact h6
  · have hb := h5 hy
    subst hb
    obtain rfl : m = 0 := hm.symm
    have hr1 : r = ([], [], why) := by
      rw [← hr]; unfold takeG
      by_cases h : ([] : List UInt8).length < n
      · rw [if_pos h, if_neg hy]
      · rw [if_neg h]; simp
    have HR := Lib.hid hr1
    have hy1 : (why == 0) = false := by simpa using hy
    have hy2 : (why != 0) = true := by simpa using hy
    clear hr hr1 hm hlf h4 h5 h6 hB
    go_enter Tryd.func75, Tryd.ntmps75
    go_wp2_with fail
    go_ret
    rw [HR.out]
    exact ⟨_, rfl, World.ownsRow_nil _ _ _ _, hR, Exc.refl _ _ _⟩
end Go.Proofs.YtkmjnbfhfjafpaaDoor
