/- Records: read from bytes, by the program. -/
import Derived.Test.YtkmjnbfhfjafpaaDoorGetA
import Derived.Test.YtkmjnbfhfjafpaaDoorRecKit
namespace Go.Proofs.YtkmjnbfhfjafpaaDoor
set_option linter.unusedVariables false
set_option linter.unusedSimpArgs false
open Go.RowKit
set_option maxHeartbeats 1000000 in
set_option maxRecDepth 100000 in
theorem gettext_any (w : World) (lo g q : Nat) (s : St) (hR : RdrS w lo g s) (hq : w.cell? ⟨q, 0, none⟩ = some (.pointer (some ⟨g, 0, none⟩))) :
    Calls Tryd.prog 50 #[.pointer (some ⟨q, 0, none⟩)] w fun e w' => ∃ x s', textS 24 s = (x, s') ∧ x.size ≤ 24 ∧ e = .returned (.string x) ∧ RdrS w' lo g s' ∧ Exc g (g + 1) w w' := by
  have ht := text_S hR 24 (by decide)
  rw [show ((24 : Nat) : Int) = 24 from rfl] at ht
  go_enter Tryd.func50, Tryd.ntmps50
  go_wp2_with (go_at_call 51; (with_reducible refine ht.mono ?_); rintro e w1 ⟨x, s1, hp, hxs, rfl, hR1, hX1⟩; have HP := Lib.hid hp; clear hp)
  go_ret
  exact ⟨x, s1, HP.out, hxs, rfl, hR1, hX1⟩
/-- The program's Get at work: the reader at g, its pointer at q, the record behind it. -/
structure GSt (W0 w : World) (lo g q : Nat) (s : St) (cs : Array Value) : Prop where
  rd : RdrS w lo g s
  pq : Blk w q 65 #[.pointer (some ⟨g, 0, none⟩)]
  rc : Blk w (q + 1) 25 cs
  lt : g < q
  bl : Below g W0 w
section
variable {W0 w w' : World} {lo g q : Nat} {s s' : St} {cs : Array Value}
theorem GSt.exc (h : GSt W0 w lo g q s cs) (hR : RdrS w' lo g s') (hX : Exc g (g + 1) w w') : GSt W0 w' lo g q s' cs :=
  ⟨hR, hX.blk h.pq (.inr h.lt), hX.blk h.rc (.inr (by have := h.lt; omega)), h.lt, h.bl.trans ⟨hX.os, hX.tape, hX.output, hX.size, fun k hk => hX.block k (Nat.lt_trans hk h.rd.lt) (.inl hk)⟩⟩
theorem GSt.put (h : GSt W0 w lo g q s cs) (i : Nat) (v : Value) : GSt W0 (w.setCell ⟨q + 1, i, none⟩ v) lo g q s (cs.setIfInBounds i v) := by
  have hb : Below (q + 1) w (w.setCell ⟨q + 1, i, none⟩ v) := Below.setCell (p := ⟨q + 1, i, none⟩) (Below.refl _ _) (Nat.le_refl _) v
  exact ⟨h.rd.below hb (by have := h.lt; omega), (hb.block q (Nat.lt_succ_self q)).trans h.pq, h.rc.set_ i v, h.lt, h.bl.trans (hb.mono (by have := h.lt; omega))⟩
theorem GSt.up (h : GSt W0 w lo g q s cs) (hb : Below (q + 2) w w') : GSt W0 w' lo g q s cs :=
  ⟨h.rd.below hb (by have := h.lt; omega), (hb.block q (by omega)).trans h.pq, (hb.block (q + 1) (by omega)).trans h.rc, h.lt, h.bl.trans (hb.mono (by have := h.lt; omega))⟩
theorem GSt.size (h : GSt W0 w lo g q s cs) : q + 2 ≤ w.heap.size := h.rc.lt
theorem GSt.only (h : GSt W0 w lo g q s cs) (l : Nat) : only w l g = only W0 l g := only_keep fun b _ hb => h.bl.block b hb
def GS (q g : Nat) (v : Value) (w : World) : Prop := w.cell? ⟨q, 0, none⟩ = some (.pointer (some ⟨g, 0, none⟩)) ∧ w.cell? ⟨q + 1, 10, none⟩ = some v
theorem GSt.gs (h : GSt W0 w lo g q s cs) {v : Value} (hv : cs[10]? = some v) : GS q g v w := ⟨h.pq.cell 0 rfl, h.rc.cell 10 hv⟩
theorem GSt.drew (h : GSt W0 w lo g q s cs) : GSt W0 w.drew lo g q s cs := by
  have hb : Below w.heap.size w w.drew := (Below.refl _ _).drew
  exact ⟨h.rd.below hb h.rd.lt, h.pq, h.rc, h.lt, h.bl.drew⟩
end
theorem below_grown {B base : Nat} {a wr w' : World} {e : TypeId} {size : Nat} {v : Value} {n : Nat} {xs : List Value} (h : Below B a wr) (hB : B ≤ wr.heap.size) (hown : wr.ownsRow base e size v n xs) (hg : wr.grownBy w' v.ownBlock) (hb : B ≤ base) : Below B a w' :=
  Below.grown h hg hB fun k hk => Nat.le_trans hb (hown.lt k hk).1
/-- What Get leaves. -/
def GetP (w : World) (b : List UInt8) (e : Ending) (w' : World) : Prop :=
  ∃ A c, e = .returned (.tuple #[.agg #[.string (getG b).1.ten, .int .i64 (getG b).1.clock, .int .i64 (getG b).1.kind, .int .i64 (getG b).1.code, .int .i64 (getG b).1.id, .string (getG b).1.st, .string (getG b).1.su, .int .i64 (getG b).1.slot, .int .i64 (getG b).1.uses, .int .i64 (getG b).1.num, .slice A (getG b).1.sealed.length c], .int .i64 (getG b).2]) ∧ (getG b).1.sealed.length ≤ c ∧ rdB.Sl (only w' w.heap.size w'.heap.size) A (getG b).1.sealed.length (getG b).1.sealed ∧ Ext w w'
theorem getP_zero {w w' : World} {b : List UInt8} {v : Int} (h : getG b = (zeroR, v)) (hE : Ext w w') : GetP w b (.returned (.tuple #[.agg #[.string ⟨#[]⟩, .int .i64 0, .int .i64 0, .int .i64 0, .int .i64 0, .string ⟨#[]⟩, .string ⟨#[]⟩, .int .i64 0, .int .i64 0, .int .i64 0, .slice none 0 0], .int .i64 v])) w' := by
  unfold GetP
  rw [h]
  exact ⟨none, 0, rfl, Nat.le_refl _, Rd.Sl.none _ _ none, hE⟩
theorem getP_some {w w' : World} {b : List UInt8} {r : Rec} (h : getG b = (r, 0)) (hE : Ext w w') (A : Option Addr) (c : Nat) (hc : r.sealed.length ≤ c) (hS : rdB.Sl (only w' w.heap.size w'.heap.size) A r.sealed.length r.sealed) : GetP w b (.returned (.tuple #[.agg #[.string r.ten, .int .i64 r.clock, .int .i64 r.kind, .int .i64 r.code, .int .i64 r.id, .string r.st, .string r.su, .int .i64 r.slot, .int .i64 r.uses, .int .i64 r.num, .slice A r.sealed.length c], .int .i64 0])) w' := by
  unfold GetP
  rw [h]
  exact ⟨A, c, rfl, hc, hS, hE⟩
theorem own_exc {w w' : World} {base lo hi : Nat} {e : TypeId} {size : Nat} {v : Value} {n : Nat} {xs : List Value} (h : w.ownsRow base e size v n xs) (hX : Exc lo hi w w') (hb : hi ≤ base) : w'.ownsRow base e size v n xs := by
  obtain ⟨hl, h⟩ := h
  refine ⟨hl, h.imp id ?_⟩
  rintro ⟨g, cap, cur, h1, h2, h3, h4⟩
  exact ⟨g, cap, cur, h1, h2, (hX.block g (Array.getElem?_eq_some_iff.1 h3).1 (.inr (by omega))).trans h3, h4⟩
theorem own_val {w : World} {base : Nat} {e : TypeId} {size : Nat} {v : Value} {n : Nat} {xs : List Value} (h : w.ownsRow base e size v n xs) : ∃ A c, v = .slice A n c := by
  obtain ⟨_, ⟨rfl, rfl⟩ | ⟨g, cap, cur, rfl, _⟩⟩ := h
  · exact ⟨_, _, rfl⟩
  · exact ⟨_, _, rfl⟩
theorem own_set {w : World} {base : Nat} {e : TypeId} {size : Nat} {v : Value} {n : Nat} {xs : List Value} (h : w.ownsRow base e size v n xs) {p : Addr} (hp : p.block < base) (u : Value) : (w.setCell p u).ownsRow base e size v n xs :=
  own_exc h (Exc.setCell (lo := p.block) (Nat.le_refl _) (Nat.lt_succ_self _) u) hp
set_option maxHeartbeats 9000000 in
set_option maxRecDepth 100000 in
theorem get_any (w : World) (A : Option Addr) (c : Nat) (l : List UInt8) (hS : Rd.u8.Sl w A l.length l) (hc : l.length ≤ c) (hn : l.length ≤ 4294967296) :
    Calls Tryd.prog 20 #[.slice A l.length c] w (GetP w l) := by
  obtain ⟨P, hP⟩ : ∃ P, GetP w l = P := ⟨_, rfl⟩
  rw [hP]
  have HP := Lib.hid hP
  clear hP
  have hrd := fun (w' : World) (h : Ext w w') => read_any w' A c l (hS.ext h) hc hn
  obtain ⟨n, hln⟩ : ∃ n, l.length = n := ⟨_, rfl⟩
  rw [hln] at hrd hc hn ⊢
  clear hS
  go_enter Tryd.func20, Tryd.ntmps20
  go_upto_region 4 with (go_at_call 49; (with_reducible refine (hrd _ (by (repeat (first | assumption | exact Ext.refl _ | refine Ext.drew ?_ | refine Ext.alloc ?_ _ | refine Ext.drewN ?_ _ | refine Ext.trans ?_ (by assumption))))).mono ?_); rintro e w1 ⟨g, rfl, hR1, hg1, hg2, hE1⟩)
  clear hrd
  obtain ⟨W0, hW0, hE0, -, -⟩ := box2 w1 #[.pointer (some ⟨g, 0, none⟩)] #[.string ⟨#[]⟩, .int .i64 0, .int .i64 0, .int .i64 0, .int .i64 0, .string ⟨#[]⟩, .string ⟨#[]⟩, .int .i64 0, .int .i64 0, .int .i64 0, .slice none 0 0] 65 25
  rw [← hW0]
  have hg1 : w.heap.size + 1 ≤ g := by simpa using hg1
  have hEW : Ext w W0 := Ext.trans (((Ext.refl w).alloc _).trans hE1) hE0
  have hR1' : RdrAt w1 (w.heap.size + 1) g l 0 := by simpa using hR1
  have hG0 : GSt W0 W0 (w.heap.size + 1) g w1.heap.size (l, 0) #[.string ⟨#[]⟩, .int .i64 0, .int .i64 0, .int .i64 0, .int .i64 0, .string ⟨#[]⟩, .string ⟨#[]⟩, .int .i64 0, .int .i64 0, .int .i64 0, .slice none 0 0] := ⟨RdrAt.ext hR1' hE0, by rw [hW0]; exact (Blk.new _ _ _).alloc _, by rw [hW0]; have h := Blk.new (w1.alloc (.cells #[.pointer (some ⟨g, 0, none⟩)] 65)) 25 #[.string ⟨#[]⟩, .int .i64 0, .int .i64 0, .int .i64 0, .int .i64 0, .string ⟨#[]⟩, .string ⟨#[]⟩, .int .i64 0, .int .i64 0, .int .i64 0, .slice none 0 0]; simpa using h, by omega, Below.refl _ _⟩
  obtain ⟨q, hq⟩ : ∃ q, w1.heap.size = q := ⟨_, rfl⟩
  rw [hq] at hG0 ⊢
  have hB0 : Blk W0 w.heap.size 25 #[.string ⟨#[]⟩, .int .i64 0, .int .i64 0, .int .i64 0, .int .i64 0, .string ⟨#[]⟩, .string ⟨#[]⟩, .int .i64 0, .int .i64 0, .int .i64 0, .slice none 0 0] := Blk.ext (Blk.ext (Blk.new w _ _) hE1) hE0
  clear hW0 hR1 hR1' hg2 hE1 hq hE0
  go_upto_region 5 with (go_at_call 50; (with_reducible refine (gettext_any _ _ _ _ _ hG0.rd (hG0.pq.cell 0 rfl)).mono ?_); rintro e w2 ⟨x0, s0, hp0, hz0, rfl, hR2, hX2⟩; have HP0 := Lib.hid hp0; clear hp0; have hG1 := hG0.exc hR2 hX2; have cc := hG1.rc.cell 0 (v := .string ⟨#[]⟩) rfl; have ff := hG1.rc.frozen 0)
  have hG2 := hG1.put 0 (.string x0)
  simp only [List.setIfInBounds_toArray, List.set_cons_zero, List.set_cons_succ] at hG2
  generalize w2.setCell ⟨q + 1, 0, none⟩ (.string x0) = w3 at hG2 ⊢
  clear cc ff hG0 hR2 hX2 hG1
  have rq := fun (w' : World) (h : Blk w' q 65 #[.pointer (some ⟨g, 0, none⟩)]) => h.cell 0 (v := .pointer (some ⟨g, 0, none⟩)) rfl
  refine wp_region_noPanic ?_
  refine tr_start (.y 0 (.y 2 (.y 4 (.y 6 (.e 1 (.y 8 (.e 3 (.e 5 (.e 7 (.e 9 (.y 10 (.e 11 (.y 12 (.e 13 (.y 14 (.e 15 .nil)))))))))))))))) (fun w' => Blk w' q 65 #[.pointer (some ⟨g, 0, none⟩)]) (by kernel_rfl) (by kernel_rfl) (fun _ _ _ _ _ h => h) (hG2.drew.pq) ?_
  iterate 4 (first | (refine tr_off (a' := ?_) rfl rfl (by rfl) ?_ ?_; rotate_left 1; (· simp only [Act.put, List.setIfInBounds_toArray, List.set_cons_zero, List.set_cons_succ]; rfl)) | (refine tr_y (v := ?_) (a' := ?_) rfl rfl (by rfl) (fun w' hw' => ?_) ?_ ?_; rotate_left 2; (· go_simp; with_reducible rfl); (· simp only [Act.put, List.setIfInBounds_toArray, List.set_cons_zero, List.set_cons_succ]; rfl)))
  have hGd := hG2.drew
  generalize w3.drew = wd at hGd ⊢
  refine tr_call (args := ?_) rfl Tryd.func52 (by kernel_rfl) rfl (by rfl) rfl rfl ?_ ?_
  rotate_left 1
  · go_simp; rfl
  (with_reducible refine (int_S hGd.rd).mono ?_)
  rintro e w4 ⟨x1, s1, hp1, hz1, rfl, hR3, hX3⟩
  refine ⟨_, _, rfl, (hX3.blk (hGd).pq (.inr (hGd).lt)), (by simp only [Act.put, List.setIfInBounds_toArray, List.set_cons_zero, List.set_cons_succ]; rfl), ?_⟩
  iterate 1 (first | (refine tr_off (a' := ?_) rfl rfl (by rfl) ?_ ?_; rotate_left 1; (· simp only [Act.put, List.setIfInBounds_toArray, List.set_cons_zero, List.set_cons_succ]; rfl)) | (refine tr_y (v := ?_) (a' := ?_) rfl rfl (by rfl) (fun w' hw' => ?_) ?_ ?_; rotate_left 2; (· go_simp; with_reducible rfl); (· simp only [Act.put, List.setIfInBounds_toArray, List.set_cons_zero, List.set_cons_succ]; rfl)))
  have HP1 := Lib.hid hp1
  have hG4 := (hGd).exc hR3 hX3
  clear hp1 hR3 hX3
  refine tr_call (args := ?_) rfl Tryd.func52 (by kernel_rfl) rfl (by rfl) rfl rfl ?_ ?_
  rotate_left 1
  · go_simp; rfl
  (with_reducible refine (int_S hG4.rd).mono ?_)
  rintro e w5 ⟨x2, s2, hp2, hz2, rfl, hR3, hX3⟩
  refine ⟨_, _, rfl, (hX3.blk (hG4).pq (.inr (hG4).lt)), (by simp only [Act.put, List.setIfInBounds_toArray, List.set_cons_zero, List.set_cons_succ]; rfl), ?_⟩
  have HP2 := Lib.hid hp2
  have hG5 := (hG4).exc hR3 hX3
  clear hp2 hR3 hX3
  refine tr_call (args := ?_) rfl Tryd.func52 (by kernel_rfl) rfl (by rfl) rfl rfl ?_ ?_
  rotate_left 1
  · go_simp; rfl
  (with_reducible refine (int_S hG5.rd).mono ?_)
  rintro e w6 ⟨x3, s3, hp3, hz3, rfl, hR3, hX3⟩
  refine ⟨_, _, rfl, (hX3.blk (hG5).pq (.inr (hG5).lt)), (by simp only [Act.put, List.setIfInBounds_toArray, List.set_cons_zero, List.set_cons_succ]; rfl), ?_⟩
  have HP3 := Lib.hid hp3
  have hG6 := (hG5).exc hR3 hX3
  clear hp3 hR3 hX3
  refine tr_call (args := ?_) rfl Tryd.func52 (by kernel_rfl) rfl (by rfl) rfl rfl ?_ ?_
  rotate_left 1
  · go_simp; rfl
  (with_reducible refine (int_S hG6.rd).mono ?_)
  rintro e w7 ⟨x4, s4, hp4, hz4, rfl, hR3, hX3⟩
  refine ⟨_, _, rfl, (hX3.blk (hG6).pq (.inr (hG6).lt)), (by simp only [Act.put, List.setIfInBounds_toArray, List.set_cons_zero, List.set_cons_succ]; rfl), ?_⟩
  have HP4 := Lib.hid hp4
  have hG7 := (hG6).exc hR3 hX3
  clear hp4 hR3 hX3
  clear hG2 hGd hG4 hG5 hG6
  have cc := (hG7).rc.cell 1 (v := .int .i64 0) rfl
  have ff := (hG7).rc.frozen 1
  have hG8 := (hG7).put 1 (.int .i64 x1)
  simp only [List.setIfInBounds_toArray, List.set_cons_zero, List.set_cons_succ] at hG8
  refine tr_store (w1 := w7.setCell ⟨q + 1, 1, none⟩ (.int .i64 x1)) rfl (by rfl) rfl (by go_simp; try rfl) ((hG8).pq) ?_
  iterate 1 (first | (refine tr_off (a' := ?_) rfl rfl (by rfl) ?_ ?_; rotate_left 1; (· simp only [Act.put, List.setIfInBounds_toArray, List.set_cons_zero, List.set_cons_succ]; rfl)) | (refine tr_y (v := ?_) (a' := ?_) rfl rfl (by rfl) (fun w' hw' => ?_) ?_ ?_; rotate_left 2; (· go_simp; with_reducible rfl); (· simp only [Act.put, List.setIfInBounds_toArray, List.set_cons_zero, List.set_cons_succ]; rfl)))
  generalize w7.setCell ⟨q + 1, 1, none⟩ (.int .i64 x1) = w8 at hG8 ⊢
  clear cc ff
  have cc := (hG8).rc.cell 2 (v := .int .i64 0) rfl
  have ff := (hG8).rc.frozen 2
  have hG9 := (hG8).put 2 (.int .i64 x2)
  simp only [List.setIfInBounds_toArray, List.set_cons_zero, List.set_cons_succ] at hG9
  refine tr_store (w1 := w8.setCell ⟨q + 1, 2, none⟩ (.int .i64 x2)) rfl (by rfl) rfl (by go_simp; try rfl) ((hG9).pq) ?_
  iterate 1 (first | (refine tr_off (a' := ?_) rfl rfl (by rfl) ?_ ?_; rotate_left 1; (· simp only [Act.put, List.setIfInBounds_toArray, List.set_cons_zero, List.set_cons_succ]; rfl)) | (refine tr_y (v := ?_) (a' := ?_) rfl rfl (by rfl) (fun w' hw' => ?_) ?_ ?_; rotate_left 2; (· go_simp; with_reducible rfl); (· simp only [Act.put, List.setIfInBounds_toArray, List.set_cons_zero, List.set_cons_succ]; rfl)))
  generalize w8.setCell ⟨q + 1, 2, none⟩ (.int .i64 x2) = w9 at hG9 ⊢
  clear cc ff
  have cc := (hG9).rc.cell 3 (v := .int .i64 0) rfl
  have ff := (hG9).rc.frozen 3
  have hG10 := (hG9).put 3 (.int .i64 x3)
  simp only [List.setIfInBounds_toArray, List.set_cons_zero, List.set_cons_succ] at hG10
  refine tr_store (w1 := w9.setCell ⟨q + 1, 3, none⟩ (.int .i64 x3)) rfl (by rfl) rfl (by go_simp; try rfl) ((hG10).pq) ?_
  iterate 1 (first | (refine tr_off (a' := ?_) rfl rfl (by rfl) ?_ ?_; rotate_left 1; (· simp only [Act.put, List.setIfInBounds_toArray, List.set_cons_zero, List.set_cons_succ]; rfl)) | (refine tr_y (v := ?_) (a' := ?_) rfl rfl (by rfl) (fun w' hw' => ?_) ?_ ?_; rotate_left 2; (· go_simp; with_reducible rfl); (· simp only [Act.put, List.setIfInBounds_toArray, List.set_cons_zero, List.set_cons_succ]; rfl)))
  generalize w9.setCell ⟨q + 1, 3, none⟩ (.int .i64 x3) = w10 at hG10 ⊢
  clear cc ff
  have cc := (hG10).rc.cell 4 (v := .int .i64 0) rfl
  have ff := (hG10).rc.frozen 4
  have hG11 := (hG10).put 4 (.int .i64 x4)
  simp only [List.setIfInBounds_toArray, List.set_cons_zero, List.set_cons_succ] at hG11
  refine tr_store (w1 := w10.setCell ⟨q + 1, 4, none⟩ (.int .i64 x4)) rfl (by rfl) rfl (by go_simp; try rfl) ((hG11).pq) ?_
  generalize w10.setCell ⟨q + 1, 4, none⟩ (.int .i64 x4) = w11 at hG11 ⊢
  clear cc ff
  refine tr_end (NoPanic.normal ?_)
  clear hG7 hG8 hG9 hG10
  have cq := hG11.pq.cell 0 (v := .pointer (some ⟨g, 0, none⟩)) rfl
  go_upto_region 7 with (first | (go_at_call 50; (with_reducible refine (gettext_any _ _ _ _ _ hG11.rd cq).mono ?_); rintro e w12 ⟨x5, s5, hp5, hz5, rfl, hR2, hX2⟩; have HP5 := Lib.hid hp5; clear hp5; have hG12 := hG11.exc hR2 hX2; have cq2 := hG12.pq.cell 0 (v := .pointer (some ⟨g, 0, none⟩)) rfl; clear hR2 hX2) | (go_at_call 50; (with_reducible refine (gettext_any _ _ _ _ _ hG12.rd cq2).mono ?_); rintro e w13 ⟨x6, s6, hp6, hz6, rfl, hR2, hX2⟩; have HP6 := Lib.hid hp6; clear hp6; have hG13 := hG12.exc hR2 hX2; have cc5 := hG13.rc.cell 5 (v := .string ⟨#[]⟩) rfl; have ff5 := hG13.rc.frozen 5; have cc6 := hG13.rc.cell 6 (v := .string ⟨#[]⟩) rfl; have ff6 := hG13.rc.frozen 6; clear hR2 hX2))
  have hG14 := (hG13.put 5 (.string x5)).put 6 (.string x6)
  simp only [List.setIfInBounds_toArray, List.set_cons_zero, List.set_cons_succ] at hG14
  generalize (w13.setCell ⟨q + 1, 5, none⟩ (.string x5)).setCell ⟨q + 1, 6, none⟩ (.string x6) = w14 at hG14 ⊢
  clear cc5 ff5 cc6 ff6 cq cq2 hG11 hG12 hG13
  refine wp_region_noPanic ?_
  refine tr_start (.y 0 (.y 2 (.y 4 (.e 1 (.y 6 (.e 3 (.e 5 (.e 7 (.y 8 (.e 9 (.y 10 (.e 11 .nil)))))))))))) (fun w' => Blk w' q 65 #[.pointer (some ⟨g, 0, none⟩)]) (by kernel_rfl) (by kernel_rfl) (fun _ _ _ _ _ h => h) (hG14.drew.pq) ?_
  iterate 3 (first | (refine tr_off (a' := ?_) rfl rfl (by rfl) ?_ ?_; rotate_left 1; (· simp only [Act.put, List.setIfInBounds_toArray, List.set_cons_zero, List.set_cons_succ]; rfl)) | (refine tr_y (v := ?_) (a' := ?_) rfl rfl (by rfl) (fun w' hw' => ?_) ?_ ?_; rotate_left 2; (· go_simp; with_reducible rfl); (· simp only [Act.put, List.setIfInBounds_toArray, List.set_cons_zero, List.set_cons_succ]; rfl)))
  have hGd := hG14.drew
  generalize w14.drew = wd at hGd ⊢
  refine tr_call (args := ?_) rfl Tryd.func52 (by kernel_rfl) rfl (by rfl) rfl rfl ?_ ?_
  rotate_left 1
  · go_simp; rfl
  (with_reducible refine (int_S hGd.rd).mono ?_)
  rintro e w15 ⟨x7, s7, hp7, hz7, rfl, hR3, hX3⟩
  refine ⟨_, _, rfl, (hX3.blk (hGd).pq (.inr (hGd).lt)), (by simp only [Act.put, List.setIfInBounds_toArray, List.set_cons_zero, List.set_cons_succ]; rfl), ?_⟩
  iterate 1 (first | (refine tr_off (a' := ?_) rfl rfl (by rfl) ?_ ?_; rotate_left 1; (· simp only [Act.put, List.setIfInBounds_toArray, List.set_cons_zero, List.set_cons_succ]; rfl)) | (refine tr_y (v := ?_) (a' := ?_) rfl rfl (by rfl) (fun w' hw' => ?_) ?_ ?_; rotate_left 2; (· go_simp; with_reducible rfl); (· simp only [Act.put, List.setIfInBounds_toArray, List.set_cons_zero, List.set_cons_succ]; rfl)))
  have HP7 := Lib.hid hp7
  have hG15 := (hGd).exc hR3 hX3
  clear hp7 hR3 hX3
  refine tr_call (args := ?_) rfl Tryd.func52 (by kernel_rfl) rfl (by rfl) rfl rfl ?_ ?_
  rotate_left 1
  · go_simp; rfl
  (with_reducible refine (int_S hG15.rd).mono ?_)
  rintro e w16 ⟨x8, s8, hp8, hz8, rfl, hR3, hX3⟩
  refine ⟨_, _, rfl, (hX3.blk (hG15).pq (.inr (hG15).lt)), (by simp only [Act.put, List.setIfInBounds_toArray, List.set_cons_zero, List.set_cons_succ]; rfl), ?_⟩
  have HP8 := Lib.hid hp8
  have hG16 := (hG15).exc hR3 hX3
  clear hp8 hR3 hX3
  refine tr_call (args := ?_) rfl Tryd.func52 (by kernel_rfl) rfl (by rfl) rfl rfl ?_ ?_
  rotate_left 1
  · go_simp; rfl
  (with_reducible refine (int_S hG16.rd).mono ?_)
  rintro e w17 ⟨x9, s9, hp9, hz9, rfl, hR3, hX3⟩
  refine ⟨_, _, rfl, (hX3.blk (hG16).pq (.inr (hG16).lt)), (by simp only [Act.put, List.setIfInBounds_toArray, List.set_cons_zero, List.set_cons_succ]; rfl), ?_⟩
  have HP9 := Lib.hid hp9
  have hG17 := (hG16).exc hR3 hX3
  clear hp9 hR3 hX3
  clear hG14 hGd hG15 hG16
  have cc := (hG17).rc.cell 7 (v := .int .i64 0) rfl
  have ff := (hG17).rc.frozen 7
  have hG18 := (hG17).put 7 (.int .i64 x7)
  simp only [List.setIfInBounds_toArray, List.set_cons_zero, List.set_cons_succ] at hG18
  refine tr_store (w1 := w17.setCell ⟨q + 1, 7, none⟩ (.int .i64 x7)) rfl (by rfl) rfl (by go_simp; try rfl) ((hG18).pq) ?_
  iterate 1 (first | (refine tr_off (a' := ?_) rfl rfl (by rfl) ?_ ?_; rotate_left 1; (· simp only [Act.put, List.setIfInBounds_toArray, List.set_cons_zero, List.set_cons_succ]; rfl)) | (refine tr_y (v := ?_) (a' := ?_) rfl rfl (by rfl) (fun w' hw' => ?_) ?_ ?_; rotate_left 2; (· go_simp; with_reducible rfl); (· simp only [Act.put, List.setIfInBounds_toArray, List.set_cons_zero, List.set_cons_succ]; rfl)))
  generalize w17.setCell ⟨q + 1, 7, none⟩ (.int .i64 x7) = w18 at hG18 ⊢
  clear cc ff
  have cc := (hG18).rc.cell 8 (v := .int .i64 0) rfl
  have ff := (hG18).rc.frozen 8
  have hG19 := (hG18).put 8 (.int .i64 x8)
  simp only [List.setIfInBounds_toArray, List.set_cons_zero, List.set_cons_succ] at hG19
  refine tr_store (w1 := w18.setCell ⟨q + 1, 8, none⟩ (.int .i64 x8)) rfl (by rfl) rfl (by go_simp; try rfl) ((hG19).pq) ?_
  iterate 1 (first | (refine tr_off (a' := ?_) rfl rfl (by rfl) ?_ ?_; rotate_left 1; (· simp only [Act.put, List.setIfInBounds_toArray, List.set_cons_zero, List.set_cons_succ]; rfl)) | (refine tr_y (v := ?_) (a' := ?_) rfl rfl (by rfl) (fun w' hw' => ?_) ?_ ?_; rotate_left 2; (· go_simp; with_reducible rfl); (· simp only [Act.put, List.setIfInBounds_toArray, List.set_cons_zero, List.set_cons_succ]; rfl)))
  generalize w18.setCell ⟨q + 1, 8, none⟩ (.int .i64 x8) = w19 at hG19 ⊢
  clear cc ff
  have cc := (hG19).rc.cell 9 (v := .int .i64 0) rfl
  have ff := (hG19).rc.frozen 9
  have hG20 := (hG19).put 9 (.int .i64 x9)
  simp only [List.setIfInBounds_toArray, List.set_cons_zero, List.set_cons_succ] at hG20
  refine tr_store (w1 := w19.setCell ⟨q + 1, 9, none⟩ (.int .i64 x9)) rfl (by rfl) rfl (by go_simp; try rfl) ((hG20).pq) ?_
  generalize w19.setCell ⟨q + 1, 9, none⟩ (.int .i64 x9) = w20 at hG20 ⊢
  clear cc ff
  refine tr_end (NoPanic.normal ?_)
  clear hG17 hG18 hG19
  have cq := hG20.pq.cell 0 (v := .pointer (some ⟨g, 0, none⟩)) rfl
  have hct := count_S hG20.rd 4
  rw [show ((4 : Nat) : Int) = 4 from rfl] at hct
  go_wp2_with (go_at_call 53; (with_reducible refine hct.mono ?_); rintro e w21 ⟨m, s10, hp10, hm, rfl, hR2, hX2⟩; have HP10 := Lib.hid hp10; clear hp10; have hG21 := hG20.exc hR2 hX2; clear hR2 hX2)
  clear cq hct hG20 rq
  go_loopw [44] (fun i wr => ∃ (k : Nat) (v : Value) (rows : List (List UInt8)) (vs : List Value) (s : St), k ≤ m ∧ i = .int .i64 k ∧ Hid (blobsS 272 k s10 = (rows, s)) ∧ GSt W0 wr (w.heap.size + 1) g q s #[.string x0, .int .i64 x1, .int .i64 x2, .int .i64 x3, .int .i64 x4, .string x5, .string x6, .int .i64 x7, .int .i64 x8, .int .i64 x9, v] ∧ wr.ownsRow (q + 2) 29 1 v k vs ∧ Hid (rows.length = k) ∧ (∀ x ∈ rows, x.length ≤ 272) ∧ (∀ i (h : i < rows.length), ∃ u, vs[i]? = some u ∧ rdB.K (only W0 (w.heap.size + 1) g) rows[i] [u])) (fun i _ => m - (intOf i).toNat)
  case atStart => exact ⟨0, _, [], [], s10, by omega, rfl, Lib.hid rfl, hG21, World.ownsRow_nil _ _ _ _, Lib.hid rfl, (fun x hx => by cases hx), (fun i h => by cases h)⟩
  case round =>
    clear hG21
    obtain ⟨k, v, rows, vs, s, hkm, rfl, HB, hG, hown, HL, hrl, hel⟩ := hrel
    by_cases hlt : k < m
    · have r1 := fun (w' : World) (h : GS q g v w') => h.1
      have r2 := fun (w' : World) (h : GS q g v w') => h.2
      go_wp2_with fail
      refine wp_region_noPanic ?_
      refine tr_start (.y 0 (.y 1 (.y 2 (.e 3 (.e 4 (.e 5 (.y 6 (.e 7 .nil)))))))) (GS q g v) (by kernel_rfl) (by kernel_rfl) (fun _ _ _ _ _ h => h) (hG.drew.gs rfl) ?_
      iterate 3 (first | (refine tr_off (a' := ?_) rfl rfl (by rfl) ?_ ?_; rotate_left 1; (· simp only [Act.put, List.setIfInBounds_toArray, List.set_cons_zero, List.set_cons_succ]; rfl)) | (refine tr_y (v := ?_) (a' := ?_) rfl rfl (by rfl) (fun w' hw' => ?_) ?_ ?_; rotate_left 2; (· go_simp; with_reducible rfl); (· simp only [Act.put, List.setIfInBounds_toArray, List.set_cons_zero, List.set_cons_succ]; rfl)))
      have hGd := hG.drew
      have hod := own_ext hown ((Ext.refl wr).drew)
      generalize wr.drew = wd at hGd hod ⊢
      have hbl := blob_S hGd.rd 272 (by decide)
      rw [show ((272 : Nat) : Int) = 272 from rfl] at hbl
      refine tr_call (args := ?_) rfl Tryd.func54 (by kernel_rfl) rfl (by rfl) rfl rfl ?_ ?_
      rotate_left 1
      · go_simp; rfl
      (with_reducible refine (hbl).mono ?_)
      rintro e w22 ⟨A1, n1, c1, p1, s1, hp1, hn1, hz1, rfl, h1c, h1S, hR3, hX3⟩
      refine ⟨_, _, rfl, (hGd.exc hR3 hX3).gs rfl, (by simp only [Act.put, List.setIfInBounds_toArray, List.set_cons_zero, List.set_cons_succ]; rfl), ?_⟩
      have HB1 := Lib.hid hp1
      have HN1 := Lib.hid hn1
      have hG22 := hGd.exc hR3 hX3
      have ho22 : w22.ownsRow (q + 2) 29 1 v k vs := own_exc hod hX3 (by have := hGd.lt; omega)
      rw [hG22.only] at h1S
      have hb22 : Below (q + 2) w22 (w22.alloc (.cells #[.slice A1 n1 c1] 29)) := (Below.refl _ _).alloc hG22.size _
      refine tr_value (v := ?_) (w1 := ?_) (a' := ?_) rfl rfl (by rfl) ?_ ?_ ?_ ?_
      rotate_left 3
      · go_simp; refine ⟨?_, ?_⟩ <;> with_reducible rfl
      · exact (hG22.up hb22).gs rfl
      · simp only [Act.put, List.setIfInBounds_toArray, List.set_cons_zero, List.set_cons_succ]; rfl
      refine tr_append (news := [.slice A1 n1 c1]) rfl (by rfl) rfl elt_nested (.tmp 47) (.tmp 50) rfl (ho22.alloc _) rfl rfl ?_ ?_ ?_ ?_ ?_ ?_
      · exact ⟨rfl, (fun h => by cases h), fun ad h j u hu => (by cases h; exact new_cells w22 _ #[.slice A1 n1 c1] j u hu)⟩
      · intro u hu; simp at hu; subst hu; rfl
      · unfold maxLen; omega
      · omega
      · have := hG22.size; simp; omega
      intro v7 w7 hown7 hgrow7
      obtain ⟨A7, c7, rfl⟩ := own_val hown7
      have hb7 := below_grown hb22 (by have := hG22.size; simp; omega) (ho22.alloc _) hgrow7 (Nat.le_refl _)
      have hG7 := hG22.up hb7
      refine ⟨_, hG7.gs rfl, (by simp only [Act.put, List.setIfInBounds_toArray, List.set_cons_zero, List.set_cons_succ]; rfl), ?_⟩
      iterate 1 (first | (refine tr_off (a' := ?_) rfl rfl (by rfl) ?_ ?_; rotate_left 1; (· simp only [Act.put, List.setIfInBounds_toArray, List.set_cons_zero, List.set_cons_succ]; rfl)) | (refine tr_y (v := ?_) (a' := ?_) rfl rfl (by rfl) (fun w' hw' => ?_) ?_ ?_; rotate_left 2; (· go_simp; with_reducible rfl); (· simp only [Act.put, List.setIfInBounds_toArray, List.set_cons_zero, List.set_cons_succ]; rfl)))
      have cc := hG7.rc.cell 10 (v := v) rfl
      have ff := hG7.rc.frozen 10
      have hG8 := hG7.put 10 (.slice A7 (k + 1) c7)
      simp only [List.setIfInBounds_toArray, List.set_cons_zero, List.set_cons_succ] at hG8
      have ho8 : (w7.setCell ⟨q + 1, 10, none⟩ (.slice A7 (k + 1) c7)).ownsRow (q + 2) 29 1 (.slice A7 (k + 1) c7) (k + 1) (vs ++ [.slice A1 n1 c1]) := own_set hown7 (p := ⟨q + 1, 10, none⟩) (by simp) _
      refine tr_last (w1 := w7.setCell ⟨q + 1, 10, none⟩ (.slice A7 (k + 1) c7)) rfl (by rfl) rfl (by kernel_rfl) (by go_simp; try rfl) ?_
      refine NoPanic.normal ?_
      generalize w7.setCell ⟨q + 1, 10, none⟩ (.slice A7 (k + 1) c7) = w8 at hG8 ho8 ⊢
      have hvl : vs.length = k := by have := hown.1; omega
      have hel2 : ∀ i (h : i < (rows ++ [p1]).length), ∃ u, (vs ++ [.slice A1 n1 c1])[i]? = some u ∧ rdB.K (only W0 (w.heap.size + 1) g) (rows ++ [p1])[i] [u] := fun i h => by
        have hl := HL.out
        rw [List.length_append] at h
        by_cases hik : i < rows.length
        · obtain ⟨u, hu, hK⟩ := hel i hik
          exact ⟨u, by rw [List.getElem?_append_left (by omega)]; exact hu, by rw [List.getElem_append_left hik]; exact hK⟩
        · have hil : i = k := by simp at h; omega
          subst hil
          refine ⟨_, by rw [List.getElem?_append_right (by omega), hvl, Nat.sub_self]; rfl, ?_⟩
          rw [List.getElem_append_right (by omega)]
          simp only [hl, Nat.sub_self, List.getElem_cons_zero]
          exact ⟨A1, c1, by rw [hn1], by rw [hn1]; exact h1c, by rw [hn1]; exact h1S⟩
      have HB2 : Hid (blobsS 272 (k + 1) s10 = (rows ++ [p1], s1)) := Lib.hid (by
        have h1 := HB.out
        show ((blobsS 272 k s10).1 ++ [(blobS 272 (blobsS 272 k s10).2).1], (blobS 272 (blobsS 272 k s10).2).2) = _
        rw [h1]
        show (rows ++ [(blobS 272 s).1], (blobS 272 s).2) = _
        rw [HB1.out])
      have HL2 : Hid ((rows ++ [p1]).length = k + 1) := Lib.hid (by have := HL.out; simp; omega)
      have hrl2 : ∀ x ∈ rows ++ [p1], x.length ≤ 272 := fun x hx => by
        rcases List.mem_append.1 hx with hx | hx
        · exact hrl x hx
        · obtain rfl : x = p1 := by simpa using hx
          rw [hn1]; exact hz1
      clear hG hown hel HB HL hrl hG22 ho22 hb22 hb7 hG7 hown7 hgrow7 cc ff hGd hod hbl hp1 hn1 h1S hR3 hX3 r1 r2 hvl
      go_wp2_with fail
      go_roundw
      case rel => exact ⟨k + 1, _, _, _, s1, by omega, by go_num, HB2, hG8, ho8, HL2, hrl2, hel2⟩
      case measure => simp [intOf]; omega
    · obtain rfl : k = m := by omega
      have hGk := hG
      have hrec := getRec_eq HP0.out HP1.out HP2.out HP3.out HP4.out HP5.out HP6.out HP7.out HP8.out HP9.out HP10.out HB.out
      obtain ⟨r, hr⟩ : ∃ r : Rec, (⟨x0, x1, x2, x3, x4, x5, x6, x7, x8, x9, rows⟩ : Rec) = r := ⟨_, rfl⟩
      obtain ⟨A7, c7, hv7, h7c, h7S⟩ := own_nested (lo := w.heap.size + 1) (hi := wr.heap.size) (l := rows) (by rw [HL.out]; exact hown) (by have := hG.lt; omega) (Nat.le_refl _) (fun i h => by
        obtain ⟨u, hu, hK⟩ := hel i h
        refine ⟨u, hu, rdB.mono ?_ hK⟩
        rw [← hG.only]
        exact only_wide (Nat.le_refl _) (Nat.le_of_lt hG.rd.lt))
      rw [HL.out] at hv7 h7c h7S
      subst hv7
      have hck := check_any wr ⟨x0, x1, x2, x3, x4, x5, x6, x7, x8, x9, rows⟩ A7 c7 (by show rdB.Sl wr A7 rows.length rows; rw [HL.out]; exact h7S.mono only_cle) (by show rows.length ≤ c7; rw [HL.out]; exact h7c) (by show rows.length ≤ 1000000; rw [HL.out]; omega) (fun x hx => by have := hrl x hx; omega) (by show x0.size ≤ _; omega) (by show x5.size ≤ _; omega) (by show x6.size ≤ _; omega)
      obtain ⟨cv, hcv⟩ : ∃ v, checkG ⟨x0, x1, x2, x3, x4, x5, x6, x7, x8, x9, rows⟩ = v := ⟨_, rfl⟩
      rw [hcv] at hck
      dsimp only at hck
      rw [HL.out] at hck
      rw [hr] at hrec hcv
      obtain ⟨ev, hev⟩ : ∃ v, endS s = v := ⟨_, rfl⟩
      have hen := end_S hG.rd
      rw [hev] at hen
      have cq := hG.pq.cell 0 (v := .pointer (some ⟨g, 0, none⟩)) rfl
      have hrl := HL.out
      have HG1 := Lib.hid hrec
      have HR := Lib.hid hr
      have HC := Lib.hid hcv
      have HE := Lib.hid hev
      have hEr : Ext w wr := Below.trans hEW (hG.bl.mono (by omega))
      have hD : Blk wr w.heap.size 25 #[.string ⟨#[]⟩, .int .i64 0, .int .i64 0, .int .i64 0, .int .i64 0, .string ⟨#[]⟩, .string ⟨#[]⟩, .int .i64 0, .int .i64 0, .int .i64 0, .slice none 0 0] := (hG.bl.block w.heap.size (by omega)).trans hB0
      have HL := Lib.hid hrl
      clear hrec hr hcv hev hrl hown hel
      by_cases he : ev = 0
      · have he' : (ev != 0) = false := by simpa using he
        subst he
        have d0 := hG.rc.cell 0 (v := .string x0) rfl
        have e0 := hG.rc.frozen 0
        have d1 := hG.rc.cell 1 (v := .int .i64 x1) rfl
        have e1 := hG.rc.frozen 1
        have d2 := hG.rc.cell 2 (v := .int .i64 x2) rfl
        have e2 := hG.rc.frozen 2
        have d3 := hG.rc.cell 3 (v := .int .i64 x3) rfl
        have e3 := hG.rc.frozen 3
        have d4 := hG.rc.cell 4 (v := .int .i64 x4) rfl
        have e4 := hG.rc.frozen 4
        have d5 := hG.rc.cell 5 (v := .string x5) rfl
        have e5 := hG.rc.frozen 5
        have d6 := hG.rc.cell 6 (v := .string x6) rfl
        have e6 := hG.rc.frozen 6
        have d7 := hG.rc.cell 7 (v := .int .i64 x7) rfl
        have e7 := hG.rc.frozen 7
        have d8 := hG.rc.cell 8 (v := .int .i64 x8) rfl
        have e8 := hG.rc.frozen 8
        have d9 := hG.rc.cell 9 (v := .int .i64 x9) rfl
        have e9 := hG.rc.frozen 9
        have d10 := hG.rc.cell 10 (v := .slice A7 k c7) rfl
        have e10 := hG.rc.frozen 10
        go_upto_region 16 with (first | (go_at_call 55; (with_reducible refine hen.mono ?_); rintro e w9 ⟨rfl, rfl⟩) | (go_at_call 14; (with_reducible refine hck.mono ?_); rintro e w10 ⟨rfl, hE10⟩))
        clear d0 d1 d2 d3 d4 d5 d6 d7 d8 d9 d10 e0 e1 e2 e3 e4 e5 e6 e7 e8 e9 e10 hck hen cq
        have hD2 := hD.ext hE10
        have hR2 := hG.rc.ext hE10
        have hEr := hEr.trans hE10
        have z0 := hD2.cell 0 (v := .string ⟨#[]⟩) rfl
        have f0 := hD2.frozen 0
        have z1 := hD2.cell 1 (v := .int .i64 0) rfl
        have f1 := hD2.frozen 1
        have z2 := hD2.cell 2 (v := .int .i64 0) rfl
        have f2 := hD2.frozen 2
        have z3 := hD2.cell 3 (v := .int .i64 0) rfl
        have f3 := hD2.frozen 3
        have z4 := hD2.cell 4 (v := .int .i64 0) rfl
        have f4 := hD2.frozen 4
        have z5 := hD2.cell 5 (v := .string ⟨#[]⟩) rfl
        have f5 := hD2.frozen 5
        have z6 := hD2.cell 6 (v := .string ⟨#[]⟩) rfl
        have f6 := hD2.frozen 6
        have z7 := hD2.cell 7 (v := .int .i64 0) rfl
        have f7 := hD2.frozen 7
        have z8 := hD2.cell 8 (v := .int .i64 0) rfl
        have f8 := hD2.frozen 8
        have z9 := hD2.cell 9 (v := .int .i64 0) rfl
        have f9 := hD2.frozen 9
        have z10 := hD2.cell 10 (v := .slice none 0 0) rfl
        have f10 := hD2.frozen 10
        by_cases hcz : cv = 0
        · have hcz' : (cv != 0) = false := by simpa using hcz
          subst hcz
          have d0 := hR2.cell 0 (v := .string x0) rfl
          have e0 := hR2.frozen 0
          have d1 := hR2.cell 1 (v := .int .i64 x1) rfl
          have e1 := hR2.frozen 1
          have d2 := hR2.cell 2 (v := .int .i64 x2) rfl
          have e2 := hR2.frozen 2
          have d3 := hR2.cell 3 (v := .int .i64 x3) rfl
          have e3 := hR2.frozen 3
          have d4 := hR2.cell 4 (v := .int .i64 x4) rfl
          have e4 := hR2.frozen 4
          have d5 := hR2.cell 5 (v := .string x5) rfl
          have e5 := hR2.frozen 5
          have d6 := hR2.cell 6 (v := .string x6) rfl
          have e6 := hR2.frozen 6
          have d7 := hR2.cell 7 (v := .int .i64 x7) rfl
          have e7 := hR2.frozen 7
          have d8 := hR2.cell 8 (v := .int .i64 x8) rfl
          have e8 := hR2.frozen 8
          have d9 := hR2.cell 9 (v := .int .i64 x9) rfl
          have e9 := hR2.frozen 9
          have d10 := hR2.cell 10 (v := .slice A7 k c7) rfl
          have e10 := hR2.frozen 10
          go_wp2_with fail
          refine bodyPost_ret (v := .tuple #[.agg #[.string x0, .int .i64 x1, .int .i64 x2, .int .i64 x3, .int .i64 x4, .string x5, .string x6, .int .i64 x7, .int .i64 x8, .int .i64 x9, .slice A7 k c7], .int .i64 0]) ?_ rfl ?_
          · simp [results, Tryd.results20, go_sem, z0, z1, z2, z3, z4, z5, z6, z7, z8, z9, z10]
          · rw [← HP.out]
            have hg : getG l = (r, 0) := by unfold getG; rw [HG1.out]; simp only [HE.out, HC.out]; rfl
            have hg2 := hg
            rw [← HR.out] at hg2
            have hfin : ∀ w9, Exc w.heap.size (w.heap.size + 1) w10 w9 → GetP w l (.returned (.tuple #[.agg #[.string x0, .int .i64 x1, .int .i64 x2, .int .i64 x3, .int .i64 x4, .string x5, .string x6, .int .i64 x7, .int .i64 x8, .int .i64 x9, .slice A7 k c7], .int .i64 0])) w9 := fun w9 hX => by
              have h := getP_some hg2 (Exc.ext hEr hX (Nat.le_refl _)) A7 c7 (by show rows.length ≤ c7; rw [HL.out]; exact h7c) (by
                show rdB.Sl _ A7 rows.length rows
                rw [HL.out]
                refine h7S.mono ?_
                have e1 : only w10 (w.heap.size + 1) wr.heap.size = only wr (w.heap.size + 1) wr.heap.size := only_ext hE10 (Nat.le_refl _)
                have e2 : only w9 (w.heap.size + 1) wr.heap.size = only w10 (w.heap.size + 1) wr.heap.size := hX.only hE10.le (.inr (Nat.le_refl _))
                rw [← e1, ← e2]
                exact only_wide (Nat.le_succ _) (Nat.le_trans hE10.le hX.size))
              dsimp only at h
              rw [HL.out] at h
              exact h
            exact hfin _ (by (repeat (refine Exc.trans ?_ (Exc.setCell (by simp) (by simp) _))); exact Exc.refl _ _ _)
        · have hcz' : (cv != 0) = true := by simpa using hcz
          go_wp2_with fail
          refine bodyPost_ret (v := .tuple #[.agg #[.string ⟨#[]⟩, .int .i64 0, .int .i64 0, .int .i64 0, .int .i64 0, .string ⟨#[]⟩, .string ⟨#[]⟩, .int .i64 0, .int .i64 0, .int .i64 0, .slice none 0 0], .int .i64 cv]) ?_ rfl ?_
          · simp [results, Tryd.results20, go_sem, z0, z1, z2, z3, z4, z5, z6, z7, z8, z9, z10]
          · rw [← HP.out]
            have hg : getG l = (zeroR, cv) := by unfold getG; rw [HG1.out]; simp only [HE.out, HC.out]; simp [hcz]
            exact getP_zero hg (Exc.ext hEr (lo := w.heap.size) (hi := w.heap.size + 1) (by (repeat (refine Exc.trans ?_ (Exc.setCell (by simp) (by simp) _))); exact Exc.refl _ _ _) (Nat.le_refl _))
      · have he' : (ev != 0) = true := by simpa using he
        have z0 := hD.cell 0 (v := .string ⟨#[]⟩) rfl
        have f0 := hD.frozen 0
        have z1 := hD.cell 1 (v := .int .i64 0) rfl
        have f1 := hD.frozen 1
        have z2 := hD.cell 2 (v := .int .i64 0) rfl
        have f2 := hD.frozen 2
        have z3 := hD.cell 3 (v := .int .i64 0) rfl
        have f3 := hD.frozen 3
        have z4 := hD.cell 4 (v := .int .i64 0) rfl
        have f4 := hD.frozen 4
        have z5 := hD.cell 5 (v := .string ⟨#[]⟩) rfl
        have f5 := hD.frozen 5
        have z6 := hD.cell 6 (v := .string ⟨#[]⟩) rfl
        have f6 := hD.frozen 6
        have z7 := hD.cell 7 (v := .int .i64 0) rfl
        have f7 := hD.frozen 7
        have z8 := hD.cell 8 (v := .int .i64 0) rfl
        have f8 := hD.frozen 8
        have z9 := hD.cell 9 (v := .int .i64 0) rfl
        have f9 := hD.frozen 9
        have z10 := hD.cell 10 (v := .slice none 0 0) rfl
        have f10 := hD.frozen 10
        go_wp2_with (go_at_call 55; (with_reducible refine hen.mono ?_); rintro e w9 ⟨rfl, rfl⟩)
        refine bodyPost_ret (v := .tuple #[.agg #[.string ⟨#[]⟩, .int .i64 0, .int .i64 0, .int .i64 0, .int .i64 0, .string ⟨#[]⟩, .string ⟨#[]⟩, .int .i64 0, .int .i64 0, .int .i64 0, .slice none 0 0], .int .i64 ev]) ?_ rfl ?_
        · simp [results, Tryd.results20, go_sem, z0, z1, z2, z3, z4, z5, z6, z7, z8, z9, z10]
        · rw [← HP.out]
          have hg : getG l = (zeroR, ev) := by unfold getG; rw [HG1.out]; simp only [HE.out]; simp [he]
          exact getP_zero hg (Exc.ext hEr (lo := w.heap.size) (hi := w.heap.size + 1) (by (repeat (refine Exc.trans ?_ (Exc.setCell (by simp) (by simp) _))); exact Exc.refl _ _ _) (Nat.le_refl _))
end Go.Proofs.YtkmjnbfhfjafpaaDoor
