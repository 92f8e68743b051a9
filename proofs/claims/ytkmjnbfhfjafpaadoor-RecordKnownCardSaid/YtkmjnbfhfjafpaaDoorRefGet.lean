/- Records: read from bytes, by the document's answer. -/
import Derived.Test.YtkmjnbfhfjafpaaDoorRecGet
namespace Go.Proofs.YtkmjnbfhfjafpaaDoor
set_option linter.unusedVariables false
set_option linter.unusedSimpArgs false
open Go.RowKit
/-- The document's Get at work: the reader at g, the record at q. -/
structure RSt (W0 w : World) (lo g q : Nat) (s : St) (cs : Array Value) : Prop where
  rd : RefS w lo g s
  rc : Blk w q 25 cs
  lt : g < q
  bl : Below g W0 w
section
variable {W0 w w' : World} {lo g q : Nat} {s s' : St} {cs : Array Value}
theorem RSt.exc (h : RSt W0 w lo g q s cs) (hR : RefS w' lo g s') (hX : Exc g (g + 1) w w') : RSt W0 w' lo g q s' cs :=
  ⟨hR, hX.blk h.rc (.inr h.lt), h.lt, h.bl.trans ⟨hX.os, hX.tape, hX.output, hX.size, fun k hk => hX.block k (Nat.lt_trans hk h.rd.lt) (.inl hk)⟩⟩
theorem RSt.put (h : RSt W0 w lo g q s cs) (i : Nat) (v : Value) : RSt W0 (w.setCell ⟨q, i, none⟩ v) lo g q s (cs.setIfInBounds i v) := by
  have hb : Below q w (w.setCell ⟨q, i, none⟩ v) := Below.setCell (p := ⟨q, i, none⟩) (Below.refl _ _) (Nat.le_refl _) v
  exact ⟨h.rd.below hb h.lt, h.rc.set_ i v, h.lt, h.bl.trans (hb.mono (Nat.le_of_lt h.lt))⟩
theorem RSt.up (h : RSt W0 w lo g q s cs) (hb : Below (q + 1) w w') : RSt W0 w' lo g q s cs :=
  ⟨h.rd.below hb (by have := h.lt; omega), (hb.block q (by omega)).trans h.rc, h.lt, h.bl.trans (hb.mono (by have := h.lt; omega))⟩
theorem RSt.size (h : RSt W0 w lo g q s cs) : q + 1 ≤ w.heap.size := h.rc.lt
theorem RSt.drew (h : RSt W0 w lo g q s cs) : RSt W0 w.drew lo g q s cs := by
  have hb : Below w.heap.size w w.drew := (Below.refl _ _).drew
  exact ⟨h.rd.below hb h.rd.lt, h.rc, h.lt, h.bl.drew⟩
theorem rtext24 (hR : RefS w lo g s) : Calls Tryd.prog 57 #[.pointer (some ⟨g, 0, none⟩), .int .i64 24] w fun e w' => ∃ x s', textS 24 s = (x, s') ∧ x.size ≤ 24 ∧ e = .returned (.string x) ∧ RefS w' lo g s' ∧ Exc g (g + 1) w w' := rtext_S hR 24 (by decide)
end
def GR (q : Nat) (v : Value) (w : World) : Prop := w.cell? ⟨q, 10, none⟩ = some v
set_option maxHeartbeats 9000000 in
set_option maxRecDepth 100000 in
theorem rget_any (w : World) (A : Option Addr) (c : Nat) (l : List UInt8) (hS : Rd.u8.Sl w A l.length l) (hc : l.length ≤ c) (hn : l.length ≤ 4294967296) :
    Calls Tryd.prog 21 #[.slice A l.length c] w (GetP w l) := by
  obtain ⟨P, hP⟩ : ∃ P, GetP w l = P := ⟨_, rfl⟩
  rw [hP]
  have HP := Lib.hid hP
  clear hP
  have hrd := fun (w' : World) (h : Ext w w') => rread_any w' A c l (hS.ext h) hc hn
  obtain ⟨n, hln⟩ : ∃ n, l.length = n := ⟨_, rfl⟩
  rw [hln] at hrd hc hn ⊢
  clear hS
  go_enter Tryd.func21, Tryd.ntmps21
  go_upto_region 3 with (go_at_call 56; (with_reducible refine (hrd _ (by (repeat (first | assumption | exact Ext.refl _ | refine Ext.drew ?_ | refine Ext.alloc ?_ _ | refine Ext.drewN ?_ _ | refine Ext.trans ?_ (by assumption))))).mono ?_); rintro e w1 ⟨g, rfl, hR1, hg1, hg2, hE1⟩)
  clear hrd
  obtain ⟨W0, hW0, hE0, -⟩ := box1 w1 #[.string ⟨#[]⟩, .int .i64 0, .int .i64 0, .int .i64 0, .int .i64 0, .string ⟨#[]⟩, .string ⟨#[]⟩, .int .i64 0, .int .i64 0, .int .i64 0, .slice none 0 0] 25
  rw [← hW0]
  have hg1 : w.heap.size + 1 ≤ g := by simpa using hg1
  have hEW : Ext w W0 := Ext.trans (((Ext.refl w).alloc _).trans hE1) hE0
  have hR1' : RefAt w1 (w.heap.size + 1) g l 0 := by simpa using hR1
  have hG0 : RSt W0 W0 (w.heap.size + 1) g w1.heap.size (l, 0) #[.string ⟨#[]⟩, .int .i64 0, .int .i64 0, .int .i64 0, .int .i64 0, .string ⟨#[]⟩, .string ⟨#[]⟩, .int .i64 0, .int .i64 0, .int .i64 0, .slice none 0 0] := ⟨RefAt.ext hR1' hE0, by rw [hW0]; exact Blk.new _ _ _, by omega, Below.refl _ _⟩
  have hB0 : Blk W0 w.heap.size 25 #[.string ⟨#[]⟩, .int .i64 0, .int .i64 0, .int .i64 0, .int .i64 0, .string ⟨#[]⟩, .string ⟨#[]⟩, .int .i64 0, .int .i64 0, .int .i64 0, .slice none 0 0] := Blk.ext (Blk.ext (Blk.new w _ _) hE1) hE0
  obtain ⟨q, hq⟩ : ∃ q, w1.heap.size = q := ⟨_, rfl⟩
  rw [hq] at hG0 ⊢
  clear hW0 hR1 hR1' hg2 hE1 hq hE0
  go_upto_region 4 with (go_at_call 57; (with_reducible refine (rtext24 hG0.rd).mono ?_); rintro e wa ⟨x0, s0, hp, hz0, rfl, hR2, hX2⟩; have HP0 := Lib.hid hp; clear hp; have hGa := (hG0).exc hR2 hX2; have cc := hGa.rc.cell 0 (v := .string ⟨#[]⟩) rfl; have ff := hGa.rc.frozen 0)
  have hG1 := hGa.put 0 (.string x0)
  simp only [List.setIfInBounds_toArray, List.set_cons_zero, List.set_cons_succ] at hG1
  generalize wa.setCell ⟨q, 0, none⟩ (.string x0) = w2 at hG1 ⊢
  clear cc ff hGa hR2 hX2 hG0
  go_upto_region 5 with (go_at_call 58; (with_reducible refine (rint_S hG1.rd).mono ?_); rintro e wa ⟨x1, s1, hp, hz1, rfl, hR2, hX2⟩; have HP1 := Lib.hid hp; clear hp; have hGa := (hG1).exc hR2 hX2; have cc := hGa.rc.cell 1 (v := .int .i64 0) rfl; have ff := hGa.rc.frozen 1)
  have hG2 := hGa.put 1 (.int .i64 x1)
  simp only [List.setIfInBounds_toArray, List.set_cons_zero, List.set_cons_succ] at hG2
  generalize wa.setCell ⟨q, 1, none⟩ (.int .i64 x1) = w3 at hG2 ⊢
  clear cc ff hGa hR2 hX2 hG1
  go_upto_region 6 with (go_at_call 58; (with_reducible refine (rint_S hG2.rd).mono ?_); rintro e wa ⟨x2, s2, hp, hz2, rfl, hR2, hX2⟩; have HP2 := Lib.hid hp; clear hp; have hGa := (hG2).exc hR2 hX2; have cc := hGa.rc.cell 2 (v := .int .i64 0) rfl; have ff := hGa.rc.frozen 2)
  have hG3 := hGa.put 2 (.int .i64 x2)
  simp only [List.setIfInBounds_toArray, List.set_cons_zero, List.set_cons_succ] at hG3
  generalize wa.setCell ⟨q, 2, none⟩ (.int .i64 x2) = w4 at hG3 ⊢
  clear cc ff hGa hR2 hX2 hG2
  go_upto_region 7 with (go_at_call 58; (with_reducible refine (rint_S hG3.rd).mono ?_); rintro e wa ⟨x3, s3, hp, hz3, rfl, hR2, hX2⟩; have HP3 := Lib.hid hp; clear hp; have hGa := (hG3).exc hR2 hX2; have cc := hGa.rc.cell 3 (v := .int .i64 0) rfl; have ff := hGa.rc.frozen 3)
  have hG4 := hGa.put 3 (.int .i64 x3)
  simp only [List.setIfInBounds_toArray, List.set_cons_zero, List.set_cons_succ] at hG4
  generalize wa.setCell ⟨q, 3, none⟩ (.int .i64 x3) = w5 at hG4 ⊢
  clear cc ff hGa hR2 hX2 hG3
  go_upto_region 8 with (go_at_call 58; (with_reducible refine (rint_S hG4.rd).mono ?_); rintro e wa ⟨x4, s4, hp, hz4, rfl, hR2, hX2⟩; have HP4 := Lib.hid hp; clear hp; have hGa := (hG4).exc hR2 hX2; have cc := hGa.rc.cell 4 (v := .int .i64 0) rfl; have ff := hGa.rc.frozen 4)
  have hG5 := hGa.put 4 (.int .i64 x4)
  simp only [List.setIfInBounds_toArray, List.set_cons_zero, List.set_cons_succ] at hG5
  generalize wa.setCell ⟨q, 4, none⟩ (.int .i64 x4) = w6 at hG5 ⊢
  clear cc ff hGa hR2 hX2 hG4
  go_upto_region 9 with (go_at_call 57; (with_reducible refine (rtext24 hG5.rd).mono ?_); rintro e wa ⟨x5, s5, hp, hz5, rfl, hR2, hX2⟩; have HP5 := Lib.hid hp; clear hp; have hGa := (hG5).exc hR2 hX2; have cc := hGa.rc.cell 5 (v := .string ⟨#[]⟩) rfl; have ff := hGa.rc.frozen 5)
  have hG6 := hGa.put 5 (.string x5)
  simp only [List.setIfInBounds_toArray, List.set_cons_zero, List.set_cons_succ] at hG6
  generalize wa.setCell ⟨q, 5, none⟩ (.string x5) = w7 at hG6 ⊢
  clear cc ff hGa hR2 hX2 hG5
  go_upto_region 10 with (go_at_call 57; (with_reducible refine (rtext24 hG6.rd).mono ?_); rintro e wa ⟨x6, s6, hp, hz6, rfl, hR2, hX2⟩; have HP6 := Lib.hid hp; clear hp; have hGa := (hG6).exc hR2 hX2; have cc := hGa.rc.cell 6 (v := .string ⟨#[]⟩) rfl; have ff := hGa.rc.frozen 6)
  have hG7 := hGa.put 6 (.string x6)
  simp only [List.setIfInBounds_toArray, List.set_cons_zero, List.set_cons_succ] at hG7
  generalize wa.setCell ⟨q, 6, none⟩ (.string x6) = w8 at hG7 ⊢
  clear cc ff hGa hR2 hX2 hG6
  go_upto_region 11 with (go_at_call 58; (with_reducible refine (rint_S hG7.rd).mono ?_); rintro e wa ⟨x7, s7, hp, hz7, rfl, hR2, hX2⟩; have HP7 := Lib.hid hp; clear hp; have hGa := (hG7).exc hR2 hX2; have cc := hGa.rc.cell 7 (v := .int .i64 0) rfl; have ff := hGa.rc.frozen 7)
  have hG8 := hGa.put 7 (.int .i64 x7)
  simp only [List.setIfInBounds_toArray, List.set_cons_zero, List.set_cons_succ] at hG8
  generalize wa.setCell ⟨q, 7, none⟩ (.int .i64 x7) = w9 at hG8 ⊢
  clear cc ff hGa hR2 hX2 hG7
  go_upto_region 12 with (go_at_call 58; (with_reducible refine (rint_S hG8.rd).mono ?_); rintro e wa ⟨x8, s8, hp, hz8, rfl, hR2, hX2⟩; have HP8 := Lib.hid hp; clear hp; have hGa := (hG8).exc hR2 hX2; have cc := hGa.rc.cell 8 (v := .int .i64 0) rfl; have ff := hGa.rc.frozen 8)
  have hG9 := hGa.put 8 (.int .i64 x8)
  simp only [List.setIfInBounds_toArray, List.set_cons_zero, List.set_cons_succ] at hG9
  generalize wa.setCell ⟨q, 8, none⟩ (.int .i64 x8) = w10 at hG9 ⊢
  clear cc ff hGa hR2 hX2 hG8
  go_upto_region 13 with (go_at_call 58; (with_reducible refine (rint_S hG9.rd).mono ?_); rintro e wa ⟨x9, s9, hp, hz9, rfl, hR2, hX2⟩; have HP9 := Lib.hid hp; clear hp; have hGa := (hG9).exc hR2 hX2; have cc := hGa.rc.cell 9 (v := .int .i64 0) rfl; have ff := hGa.rc.frozen 9)
  have hG20 := hGa.put 9 (.int .i64 x9)
  simp only [List.setIfInBounds_toArray, List.set_cons_zero, List.set_cons_succ] at hG20
  generalize wa.setCell ⟨q, 9, none⟩ (.int .i64 x9) = w20 at hG20 ⊢
  clear cc ff hGa hR2 hX2 hG9
  have hct := rcount_S hG20.rd 4
  rw [show ((4 : Nat) : Int) = 4 from rfl] at hct
  go_wp2_with (go_at_call 59; (with_reducible refine hct.mono ?_); rintro e w21 ⟨m, s10, hp10, hm, rfl, hR2, hX2⟩; have HP10 := Lib.hid hp10; clear hp10; have hG21 := hG20.exc hR2 hX2; clear hR2 hX2)
  clear hct hG20
  go_loopw [7] (fun i wr => ∃ (k : Nat) (v : Value) (rows : List (List UInt8)) (vs : List Value) (s : St), k ≤ m ∧ i = .int .i64 k ∧ Hid (blobsS 272 k s10 = (rows, s)) ∧ RSt W0 wr (w.heap.size + 1) g q s #[.string x0, .int .i64 x1, .int .i64 x2, .int .i64 x3, .int .i64 x4, .string x5, .string x6, .int .i64 x7, .int .i64 x8, .int .i64 x9, v] ∧ wr.ownsRow (q + 1) 29 1 v k vs ∧ Hid (rows.length = k) ∧ (∀ x ∈ rows, x.length ≤ 272) ∧ (∀ i (h : i < rows.length), ∃ u, vs[i]? = some u ∧ wr.ownsRow (q + 1) 5 1 u rows[i].length (rows[i].flatMap encB))) (fun i _ => m - (intOf i).toNat)
  case atStart => exact ⟨0, _, [], [], s10, by omega, rfl, Lib.hid rfl, hG21, World.ownsRow_nil _ _ _ _, Lib.hid rfl, (fun x hx => by cases hx), (fun i h => by cases h)⟩
  case round =>
    clear hG21
    obtain ⟨k, v, rows, vs, s, hkm, rfl, HB, hG, hown, HL, hrl, hel⟩ := hrel
    by_cases hlt : k < m
    · have r2 := fun (w' : World) (h : GR q v w') => (show w'.cell? ⟨q, 10, none⟩ = some v from h)
      go_wp2_with fail
      refine wp_region_noPanic ?_
      refine tr_start (.y 0 (.y 1 (.y 2 (.e 3 (.e 4 (.e 5 (.y 6 (.e 7 .nil)))))))) (GR q v) (by kernel_rfl) (by kernel_rfl) (fun _ _ _ _ _ h => h) (hG.drew.rc.cell 10 rfl) ?_
      iterate 3 (first | (refine tr_off (a' := ?_) rfl rfl (by rfl) ?_ ?_; rotate_left 1; (· simp only [Act.put, List.setIfInBounds_toArray, List.set_cons_zero, List.set_cons_succ]; rfl)) | (refine tr_y (v := ?_) (a' := ?_) rfl rfl (by rfl) (fun w' hw' => ?_) ?_ ?_; rotate_left 2; (· go_simp; with_reducible rfl); (· simp only [Act.put, List.setIfInBounds_toArray, List.set_cons_zero, List.set_cons_succ]; rfl)))
      have hGd := hG.drew
      have hod := own_ext hown ((Ext.refl wr).drew)
      have hed := fun i (h : i < rows.length) => (hel i h).imp fun u hu => (⟨hu.1, own_ext hu.2 ((Ext.refl wr).drew)⟩ : _ ∧ _)
      generalize wr.drew = wd at hGd hod hed ⊢
      have hbl := rblob_S hGd.rd 272 (by decide)
      rw [show ((272 : Nat) : Int) = 272 from rfl] at hbl
      refine tr_call (args := ?_) rfl Tryd.func60 (by kernel_rfl) rfl (by rfl) rfl rfl ?_ ?_
      rotate_left 1
      · go_simp; rfl
      (with_reducible refine (hbl).mono ?_)
      rintro e w22 ⟨u1, p1, s1, hp1, hz1, rfl, hu1, hR3, hX3⟩
      refine ⟨_, _, rfl, (hGd.exc hR3 hX3).rc.cell 10 rfl, (by simp only [Act.put, List.setIfInBounds_toArray, List.set_cons_zero, List.set_cons_succ]; rfl), ?_⟩
      have HB1 := Lib.hid hp1
      have hG22 := hGd.exc hR3 hX3
      have hu1 := own_base (base' := q + 1) hu1 hGd.size
      have ho22 : w22.ownsRow (q + 1) 29 1 v k vs := own_exc hod hX3 (by have := hGd.lt; omega)
      obtain ⟨A1, c1, hv1, h1c, -, -⟩ := own_bytes (lo := q + 1) (hi := w22.heap.size) hu1 (Nat.le_refl _) (Nat.le_refl _)
      subst hv1
      obtain ⟨n1, hn1⟩ : ∃ n, p1.length = n := ⟨_, rfl⟩
      rw [hn1] at hu1 h1c hz1 ⊢
      have hb22 : Below (q + 1) w22 (w22.alloc (.cells #[.slice A1 n1 c1] 29)) := (Below.refl _ _).alloc hG22.size _
      refine tr_value (v := ?_) (w1 := ?_) (a' := ?_) rfl rfl (by rfl) ?_ ?_ ?_ ?_
      rotate_left 3
      · go_simp; refine ⟨?_, ?_⟩ <;> with_reducible rfl
      · exact (hG22.up hb22).rc.cell 10 rfl
      · simp only [Act.put, List.setIfInBounds_toArray, List.set_cons_zero, List.set_cons_succ]; rfl
      refine tr_append (news := [.slice A1 n1 c1]) rfl (by rfl) rfl elt_nested (.tmp 49) (.tmp 52) rfl (ho22.alloc _) rfl rfl ?_ ?_ ?_ ?_ ?_ ?_
      · exact ⟨rfl, (fun h => by cases h), fun ad h j u hu => (by cases h; exact new_cells w22 _ #[.slice A1 n1 c1] j u hu)⟩
      · intro u hu; simp at hu; subst hu; rfl
      · unfold maxLen; omega
      · omega
      · have := hG22.size; simp; omega
      intro v7 w7 hown7 hgrow7
      have hkeep : ∀ (u : Value) (m : Nat) (cs : List Value), w22.ownsRow (q + 1) 5 1 u m cs → w7.ownsRow (q + 1) 5 1 u m cs := fun u m cs h =>
        (h.alloc _).kept hgrow7 (own_ne (h.alloc (.cells #[.slice A1 n1 c1] 29)) (ho22.alloc _) (by decide))
      obtain ⟨A7, c7, rfl⟩ := own_val hown7
      have hb7 := below_grown hb22 (by have := hG22.size; simp; omega) (ho22.alloc _) hgrow7 (Nat.le_refl _)
      have hG7 := hG22.up hb7
      refine ⟨_, hG7.rc.cell 10 rfl, (by simp only [Act.put, List.setIfInBounds_toArray, List.set_cons_zero, List.set_cons_succ]; rfl), ?_⟩
      iterate 1 (first | (refine tr_off (a' := ?_) rfl rfl (by rfl) ?_ ?_; rotate_left 1; (· simp only [Act.put, List.setIfInBounds_toArray, List.set_cons_zero, List.set_cons_succ]; rfl)) | (refine tr_y (v := ?_) (a' := ?_) rfl rfl (by rfl) (fun w' hw' => ?_) ?_ ?_; rotate_left 2; (· go_simp; with_reducible rfl); (· simp only [Act.put, List.setIfInBounds_toArray, List.set_cons_zero, List.set_cons_succ]; rfl)))
      have cc := hG7.rc.cell 10 (v := v) rfl
      have ff := hG7.rc.frozen 10
      have hG8 := hG7.put 10 (.slice A7 (k + 1) c7)
      simp only [List.setIfInBounds_toArray, List.set_cons_zero, List.set_cons_succ] at hG8
      have ho8 : (w7.setCell ⟨q, 10, none⟩ (.slice A7 (k + 1) c7)).ownsRow (q + 1) 29 1 (.slice A7 (k + 1) c7) (k + 1) (vs ++ [.slice A1 n1 c1]) := own_set hown7 (p := ⟨q, 10, none⟩) (by simp) _
      have hkeep : ∀ (u : Value) (m : Nat) (cs : List Value), w22.ownsRow (q + 1) 5 1 u m cs → (w7.setCell ⟨q, 10, none⟩ (.slice A7 (k + 1) c7)).ownsRow (q + 1) 5 1 u m cs := fun u m cs h => own_set (hkeep u m cs h) (p := ⟨q, 10, none⟩) (by simp) _
      refine tr_last (w1 := w7.setCell ⟨q, 10, none⟩ (.slice A7 (k + 1) c7)) rfl (by rfl) rfl (by kernel_rfl) (by go_simp; try rfl) ?_
      refine NoPanic.normal ?_
      generalize w7.setCell ⟨q, 10, none⟩ (.slice A7 (k + 1) c7) = w8 at hG8 ho8 hkeep ⊢
      have hvl : vs.length = k := by have := hown.1; omega
      have hel2 : ∀ i (h : i < (rows ++ [p1]).length), ∃ u, (vs ++ [.slice A1 n1 c1])[i]? = some u ∧ w8.ownsRow (q + 1) 5 1 u (rows ++ [p1])[i].length ((rows ++ [p1])[i].flatMap encB) := fun i h => by
        have hl := HL.out
        rw [List.length_append] at h
        by_cases hik : i < rows.length
        · obtain ⟨u, hu, hK⟩ := hed i hik
          exact ⟨u, by rw [List.getElem?_append_left (by omega)]; exact hu, by rw [List.getElem_append_left hik]; exact hkeep _ _ _ (own_exc hK hX3 (by have := hGd.lt; omega))⟩
        · have hil : i = k := by simp at h; omega
          subst hil
          refine ⟨_, by rw [List.getElem?_append_right (by omega), hvl, Nat.sub_self]; rfl, ?_⟩
          rw [List.getElem_append_right (by omega)]
          simp only [hl, Nat.sub_self, List.getElem_cons_zero]
          rw [hn1]
          exact hkeep _ _ _ hu1
      have HB2 : Hid (blobsS 272 (k + 1) s10 = (rows ++ [p1], s1)) := Lib.hid (by
        have h1 := HB.out
        show ((blobsS 272 k s10).1 ++ [(blobS 272 (blobsS 272 k s10).2).1], (blobS 272 (blobsS 272 k s10).2).2) = _
        rw [h1]
        show (rows ++ [(blobS 272 s).1], (blobS 272 s).2) = _
        rw [HB1.out])
      have HL2 : Hid ((rows ++ [p1]).length = k + 1) := Lib.hid (by have := HL.out; simp; omega)
      have hrl2 : ∀ x ∈ rows ++ [p1], x.length ≤ 272 := fun x hx => by
        rcases List.mem_append.1 hx with hx | hx
        · exact hrl x hx
        · obtain rfl : x = p1 := by simpa using hx
          rw [hn1]; exact hz1
      clear hG hown hel hed HB HL hrl hG22 ho22 hb22 hb7 hG7 hown7 hgrow7 cc ff hGd hod hbl hp1 hn1 hR3 hX3 r2 hvl hkeep hu1
      go_wp2_with fail
      go_roundw
      case rel => exact ⟨k + 1, _, _, _, s1, by omega, by go_num, HB2, hG8, ho8, HL2, hrl2, hel2⟩
      case measure => simp [intOf]; omega
    · obtain rfl : k = m := by omega
      have hrec := getRec_eq HP0.out HP1.out HP2.out HP3.out HP4.out HP5.out HP6.out HP7.out HP8.out HP9.out HP10.out HB.out
      obtain ⟨r, hr⟩ : ∃ r : Rec, (⟨x0, x1, x2, x3, x4, x5, x6, x7, x8, x9, rows⟩ : Rec) = r := ⟨_, rfl⟩
      obtain ⟨A7, c7, hv7, h7c, h7S⟩ := own_nested (lo := w.heap.size + 1) (hi := wr.heap.size) (l := rows) (by rw [HL.out]; exact hown) (by have := hG.lt; omega) (Nat.le_refl _) (fun i h => by
        obtain ⟨u, hu, hK⟩ := hel i h
        obtain ⟨A3, c3, rfl, b1, _, b2⟩ := own_bytes (lo := w.heap.size + 1) (hi := wr.heap.size) hK (by have := hG.lt; omega) (Nat.le_refl _)
        exact ⟨_, hu, A3, c3, rfl, b1, b2⟩)
      rw [HL.out] at hv7 h7c h7S
      subst hv7
      obtain ⟨ev, hev⟩ : ∃ v, endS s = v := ⟨_, rfl⟩
      have hen := rend_S hG.rd
      rw [hev] at hen
      have HE := Lib.hid hev
      clear hev
      go_upto_region 19 with (go_at_call 61; (with_reducible refine hen.mono ?_); rintro e w9 ⟨rfl, hE9⟩)
      have hck := rcheck_any w9 ⟨x0, x1, x2, x3, x4, x5, x6, x7, x8, x9, rows⟩ A7 c7 (by show rdB.Sl w9 A7 rows.length rows; rw [HL.out]; exact (h7S.mono only_cle).ext hE9) (by show rows.length ≤ c7; rw [HL.out]; exact h7c) (by show rows.length ≤ 1000000; rw [HL.out]; omega) (fun x hx => by have := hrl x hx; omega)
      obtain ⟨cv, hcv⟩ : ∃ v, checkG ⟨x0, x1, x2, x3, x4, x5, x6, x7, x8, x9, rows⟩ = v := ⟨_, rfl⟩
      rw [hcv] at hck
      dsimp only at hck
      rw [HL.out] at hck
      rw [hr] at hrec hcv
      have hEr0 : Ext w wr := Below.trans hEW (hG.bl.mono (by omega))
      have hEr : Ext w w9 := hEr0.trans hE9
      have hD : Blk w9 w.heap.size 25 #[.string ⟨#[]⟩, .int .i64 0, .int .i64 0, .int .i64 0, .int .i64 0, .string ⟨#[]⟩, .string ⟨#[]⟩, .int .i64 0, .int .i64 0, .int .i64 0, .slice none 0 0] := Blk.ext (Eq.trans (hG.bl.block w.heap.size (by omega)) hB0) hE9
      have hR := hG.rc.ext hE9
      have hrl := HL.out
      have HG1 := Lib.hid hrec
      have HR := Lib.hid hr
      have HC := Lib.hid hcv
      have HL := Lib.hid hrl
      clear hrec hr hcv hrl hown hel hen
      by_cases he : ev = 0
      · have he' : (ev != 0) = false := by simpa using he
        subst he
        have d0 := hR.cell 0 (v := .string x0) rfl
        have e0 := hR.frozen 0
        have d1 := hR.cell 1 (v := .int .i64 x1) rfl
        have e1 := hR.frozen 1
        have d2 := hR.cell 2 (v := .int .i64 x2) rfl
        have e2 := hR.frozen 2
        have d3 := hR.cell 3 (v := .int .i64 x3) rfl
        have e3 := hR.frozen 3
        have d4 := hR.cell 4 (v := .int .i64 x4) rfl
        have e4 := hR.frozen 4
        have d5 := hR.cell 5 (v := .string x5) rfl
        have e5 := hR.frozen 5
        have d6 := hR.cell 6 (v := .string x6) rfl
        have e6 := hR.frozen 6
        have d7 := hR.cell 7 (v := .int .i64 x7) rfl
        have e7 := hR.frozen 7
        have d8 := hR.cell 8 (v := .int .i64 x8) rfl
        have e8 := hR.frozen 8
        have d9 := hR.cell 9 (v := .int .i64 x9) rfl
        have e9 := hR.frozen 9
        have d10 := hR.cell 10 (v := .slice A7 k c7) rfl
        have e10 := hR.frozen 10
        go_upto_region 21 with (go_at_call 15; (with_reducible refine hck.mono ?_); rintro e w10 ⟨rfl, hE10⟩)
        clear d0 d1 d2 d3 d4 d5 d6 d7 d8 d9 d10 e0 e1 e2 e3 e4 e5 e6 e7 e8 e9 e10 hck
        have hD2 := hD.ext hE10
        have hR2 := hR.ext hE10
        have hEr := hEr.trans hE10
        have z0 := hD2.cell 0 (v := .string ⟨#[]⟩) rfl
        have f0 := hD2.frozen 0
        have z1 := hD2.cell 1 (v := .int .i64 0) rfl
        have f1 := hD2.frozen 1
        have z2 := hD2.cell 2 (v := .int .i64 0) rfl
        have f2 := hD2.frozen 2
        have z3 := hD2.cell 3 (v := .int .i64 0) rfl
        have f3 := hD2.frozen 3
        have z4 := hD2.cell 4 (v := .int .i64 0) rfl
        have f4 := hD2.frozen 4
        have z5 := hD2.cell 5 (v := .string ⟨#[]⟩) rfl
        have f5 := hD2.frozen 5
        have z6 := hD2.cell 6 (v := .string ⟨#[]⟩) rfl
        have f6 := hD2.frozen 6
        have z7 := hD2.cell 7 (v := .int .i64 0) rfl
        have f7 := hD2.frozen 7
        have z8 := hD2.cell 8 (v := .int .i64 0) rfl
        have f8 := hD2.frozen 8
        have z9 := hD2.cell 9 (v := .int .i64 0) rfl
        have f9 := hD2.frozen 9
        have z10 := hD2.cell 10 (v := .slice none 0 0) rfl
        have f10 := hD2.frozen 10
        by_cases hcz : cv = 0
        · have hcz' : (cv != 0) = false := by simpa using hcz
          subst hcz
          have d0 := hR2.cell 0 (v := .string x0) rfl
          have e0 := hR2.frozen 0
          have d1 := hR2.cell 1 (v := .int .i64 x1) rfl
          have e1 := hR2.frozen 1
          have d2 := hR2.cell 2 (v := .int .i64 x2) rfl
          have e2 := hR2.frozen 2
          have d3 := hR2.cell 3 (v := .int .i64 x3) rfl
          have e3 := hR2.frozen 3
          have d4 := hR2.cell 4 (v := .int .i64 x4) rfl
          have e4 := hR2.frozen 4
          have d5 := hR2.cell 5 (v := .string x5) rfl
          have e5 := hR2.frozen 5
          have d6 := hR2.cell 6 (v := .string x6) rfl
          have e6 := hR2.frozen 6
          have d7 := hR2.cell 7 (v := .int .i64 x7) rfl
          have e7 := hR2.frozen 7
          have d8 := hR2.cell 8 (v := .int .i64 x8) rfl
          have e8 := hR2.frozen 8
          have d9 := hR2.cell 9 (v := .int .i64 x9) rfl
          have e9 := hR2.frozen 9
          have d10 := hR2.cell 10 (v := .slice A7 k c7) rfl
          have e10 := hR2.frozen 10
          go_wp2_with fail
          refine bodyPost_ret (v := .tuple #[.agg #[.string x0, .int .i64 x1, .int .i64 x2, .int .i64 x3, .int .i64 x4, .string x5, .string x6, .int .i64 x7, .int .i64 x8, .int .i64 x9, .slice A7 k c7], .int .i64 0]) ?_ rfl ?_
          · simp [results, Tryd.results21, go_sem, z0, z1, z2, z3, z4, z5, z6, z7, z8, z9, z10]
          · rw [← HP.out]
            have hg : getG l = (r, 0) := by unfold getG; rw [HG1.out]; simp only [HE.out, HC.out]; rfl
            have hg2 := hg
            rw [← HR.out] at hg2
            have hfin : ∀ w11, Exc w.heap.size (w.heap.size + 1) w10 w11 → GetP w l (.returned (.tuple #[.agg #[.string x0, .int .i64 x1, .int .i64 x2, .int .i64 x3, .int .i64 x4, .string x5, .string x6, .int .i64 x7, .int .i64 x8, .int .i64 x9, .slice A7 k c7], .int .i64 0])) w11 := fun w11 hX => by
              have h := getP_some hg2 (Exc.ext hEr hX (Nat.le_refl _)) A7 c7 (by show rows.length ≤ c7; rw [HL.out]; exact h7c) (by
                show rdB.Sl _ A7 rows.length rows
                rw [HL.out]
                refine h7S.mono ?_
                have e1 : only w10 (w.heap.size + 1) wr.heap.size = only wr (w.heap.size + 1) wr.heap.size := only_ext (hE9.trans hE10) (Nat.le_refl _)
                have e2 : only w11 (w.heap.size + 1) wr.heap.size = only w10 (w.heap.size + 1) wr.heap.size := hX.only (hE9.trans hE10).le (.inr (Nat.le_refl _))
                rw [← e1, ← e2]
                exact only_wide (Nat.le_succ _) (Nat.le_trans (hE9.trans hE10).le hX.size))
              dsimp only at h
              rw [HL.out] at h
              exact h
            exact hfin _ (by (repeat (refine Exc.trans ?_ (Exc.setCell (by simp) (by simp) _))); exact Exc.refl _ _ _)
        · have hcz' : (cv != 0) = true := by simpa using hcz
          go_wp2_with fail
          refine bodyPost_ret (v := .tuple #[.agg #[.string ⟨#[]⟩, .int .i64 0, .int .i64 0, .int .i64 0, .int .i64 0, .string ⟨#[]⟩, .string ⟨#[]⟩, .int .i64 0, .int .i64 0, .int .i64 0, .slice none 0 0], .int .i64 cv]) ?_ rfl ?_
          · simp [results, Tryd.results21, go_sem, z0, z1, z2, z3, z4, z5, z6, z7, z8, z9, z10]
          · rw [← HP.out]
            have hg : getG l = (zeroR, cv) := by unfold getG; rw [HG1.out]; simp only [HE.out, HC.out]; simp [hcz]
            exact getP_zero hg (Exc.ext hEr (lo := w.heap.size) (hi := w.heap.size + 1) (by (repeat (refine Exc.trans ?_ (Exc.setCell (by simp) (by simp) _))); exact Exc.refl _ _ _) (Nat.le_refl _))
      · have he' : (ev != 0) = true := by simpa using he
        have he2 : (ev == 0) = false := by simpa using he
        have z0 := hD.cell 0 (v := .string ⟨#[]⟩) rfl
        have f0 := hD.frozen 0
        have z1 := hD.cell 1 (v := .int .i64 0) rfl
        have f1 := hD.frozen 1
        have z2 := hD.cell 2 (v := .int .i64 0) rfl
        have f2 := hD.frozen 2
        have z3 := hD.cell 3 (v := .int .i64 0) rfl
        have f3 := hD.frozen 3
        have z4 := hD.cell 4 (v := .int .i64 0) rfl
        have f4 := hD.frozen 4
        have z5 := hD.cell 5 (v := .string ⟨#[]⟩) rfl
        have f5 := hD.frozen 5
        have z6 := hD.cell 6 (v := .string ⟨#[]⟩) rfl
        have f6 := hD.frozen 6
        have z7 := hD.cell 7 (v := .int .i64 0) rfl
        have f7 := hD.frozen 7
        have z8 := hD.cell 8 (v := .int .i64 0) rfl
        have f8 := hD.frozen 8
        have z9 := hD.cell 9 (v := .int .i64 0) rfl
        have f9 := hD.frozen 9
        have z10 := hD.cell 10 (v := .slice none 0 0) rfl
        have f10 := hD.frozen 10
        go_wp2_with fail
        refine bodyPost_ret (v := .tuple #[.agg #[.string ⟨#[]⟩, .int .i64 0, .int .i64 0, .int .i64 0, .int .i64 0, .string ⟨#[]⟩, .string ⟨#[]⟩, .int .i64 0, .int .i64 0, .int .i64 0, .slice none 0 0], .int .i64 ev]) ?_ rfl ?_
        · simp [results, Tryd.results21, go_sem, z0, z1, z2, z3, z4, z5, z6, z7, z8, z9, z10]
        · rw [← HP.out]
          have hg : getG l = (zeroR, ev) := by unfold getG; rw [HG1.out]; simp only [HE.out]; simp [he]
          exact getP_zero hg (Exc.ext hEr (lo := w.heap.size) (hi := w.heap.size + 1) (by (repeat (refine Exc.trans ?_ (Exc.setCell (by simp) (by simp) _))); exact Exc.refl _ _ _) (Nat.le_refl _))
end Go.Proofs.YtkmjnbfhfjafpaaDoor
