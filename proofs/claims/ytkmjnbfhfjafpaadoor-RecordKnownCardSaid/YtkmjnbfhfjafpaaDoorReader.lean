/- The program's reader of bytes. -/
import Derived.Test.YtkmjnbfhfjafpaaDoorPack
namespace Go.Proofs.YtkmjnbfhfjafpaaDoor
set_option linter.unusedVariables false
set_option linter.unusedSimpArgs false
open Go.RowKit
/-- At block g stands a reader: its bytes lie in the blocks from lo, below g; bytes that are left, the error that has stuck. -/
def RdrAt (w : World) (lo g : Nat) (bs : List UInt8) (why : Int) : Prop :=
  ∃ A c, Blk w g 81 #[.slice A bs.length c, .int .i64 why] ∧ bs.length ≤ c ∧ c ≤ maxLen ∧ Rd.u8.Sl (only w lo g) A bs.length bs
theorem RdrAt.exc {w w' : World} {lo g l h : Nat} {bs : List UInt8} {why : Int} (hR : RdrAt w lo g bs why) (hX : Exc l h w w') (hd : g < l ∨ (h ≤ lo ∧ h ≤ g)) : RdrAt w' lo g bs why := by
  obtain ⟨A, c, hB, h1, h2, h3⟩ := hR
  have hg := hB.lt
  refine ⟨A, c, (hX.block g hg (by omega)).trans hB, h1, h2, ?_⟩
  rw [hX.only (Nat.le_of_lt hg) (by omega)]
  exact h3
theorem RdrAt.ext {w w' : World} {lo g : Nat} {bs : List UInt8} {why : Int} (hR : RdrAt w lo g bs why) (hE : Ext w w') : RdrAt w' lo g bs why := by
  obtain ⟨A, c, hB, h1, h2, h3⟩ := hR
  refine ⟨A, c, hE.blk hB, h1, h2, ?_⟩
  rw [only_ext hE (Nat.le_of_lt hB.lt)]
  exact h3
/-- What is read and what is left: (the bytes, left, why). -/
def takeG (n : Nat) (bs : List UInt8) (why : Int) : List UInt8 × List UInt8 × Int :=
  if bs.length < n then ([], if why = 0 then ([], 4) else (bs, why)) else (bs.take n, bs.drop n, why)
set_option maxHeartbeats 1000000 in
set_option maxRecDepth 100000 in
theorem stick_any (w : World) (lo g : Nat) (bs : List UInt8) (why : Int) (hR : RdrAt w lo g bs why) (x : Int) :
    Calls Tryd.prog 73 #[.pointer (some ⟨g, 0, none⟩), .int .i64 x] w fun e w' => e = .returned (.tuple #[]) ∧ RdrAt w' lo g (if why = 0 then [] else bs) (if why = 0 then x else why) ∧ Exc g (g + 1) w w' := by
  obtain ⟨A, c, hB, h1, h2, h3⟩ := id hR
  have x0 := hB.cell 0 (v := .slice A bs.length c) rfl
  have x1 := hB.cell 1 (v := .int .i64 why) rfl
  have f0 := hB.frozen 0
  have f1 := hB.frozen 1
  by_cases h : why = 0
  · subst h
    have hB2 := (hB.set_ 1 (.int .i64 x)).set_ 0 (.slice none 0 0)
    have hX : Exc g (g + 1) w ((w.setCell ⟨g, 1, none⟩ (.int .i64 x)).setCell ⟨g, 0, none⟩ (.slice none 0 0)) := (Exc.setCell (Nat.le_refl g) (Nat.lt_succ_self g) _).trans (Exc.setCell (Nat.le_refl g) (Nat.lt_succ_self g) _)
    generalize bs.length = n at *
    clear h3
    go_enter Tryd.func73, Tryd.ntmps73
    go_wp2_with fail
    go_end0
    exact ⟨rfl, ⟨none, 0, hB2, Nat.le_refl _, by decide, Rd.Sl.none _ _ none⟩, hX⟩
  · have hz : (why == 0) = false := by simpa using h
    rw [if_neg h, if_neg h]
    generalize bs.length = n at *
    go_enter Tryd.func73, Tryd.ntmps73
    go_wp2_with fail
    go_end0
    exact ⟨rfl, hR, Exc.refl _ _ _⟩
theorem run_slice_to2 {P : Program} {t e : TypeId} {sz bytes : Nat} (E : Elt P t e sz bytes) (A : Option Addr) (n c i : Nat) (h : i ≤ n) (hc : n ≤ c) (w : World) : (Instr.sliceAt t (.slice A n c) none (some (.int .i64 i)) (some (.int .i64 i))).run P w = .ok (.slice A i i) w := by
  obtain ⟨inf, z, hi, hz, hsz, hby, hzc⟩ := E.hi
  have h0 := E.ht
  have he : P.elem t = e := by simp [Program.elem, h0]
  have h2 : P.underlying t = some (.slice (P.elem t)) := by rw [he]; exact h0
  rw [run_sliceAt_slice _ t _ _ _ _ h2, run_slice_hm _ t A n c h2 .i64 .i64 i i (by omega) (by omega) (by omega), he]
  simp [sizeOf, typeInfo, hi, hsz, sliced, Result.andThen, Addr.add]
theorem wpList_slice_to2 {P : Program} {t e : TypeId} {sz bytes : Nat} {w : World} {ops : Array Oper} {rest : List Oper} {o : Oper} {a : Act} {Q : Exit → Act → World → Prop} (hgd : o.guard = none) (E : Elt P t e sz bytes) (x y z : Operand) (ho : o.op = .slice t x none (some y) (some z))
    (A : Option Addr) (n c i : Nat) (hx : a.eval x = .slice A n c) (hy : a.eval y = .int .i64 (i : Int)) (hz : a.eval z = .int .i64 (i : Int)) (h : i ≤ n) (hc : n ≤ c) (k : wpList P ops Q rest (a.put o.dst (.slice A i i)) w) : wpList P ops Q (o :: rest) a w :=
  wpList_plain hgd fun K hK => by
    unfold Oper.wp execOp
    simp [ho, hx, hy, hz, run_slice_to2 E A n c i h hc w, Oper.upon]
    exact hK _ _ k
/-- What a reading method leaves: bytes in the reader's blocks, and the reader. -/
def TakeP (lo g : Nat) (w : World) (r : List UInt8 × List UInt8 × Int) (e : Ending) (w' : World) : Prop := ∃ A c, e = .returned (.slice A r.1.length c) ∧ r.1.length ≤ c ∧ Rd.u8.Sl (only w' lo g) A r.1.length r.1 ∧ RdrAt w' lo g r.2.1 r.2.2 ∧ Exc g (g + 1) w w'
set_option maxHeartbeats 1000000 in
set_option maxRecDepth 100000 in
theorem take_any (w : World) (lo g : Nat) (bs : List UInt8) (why : Int) (hR : RdrAt w lo g bs why) (n : Nat) (hn : n ≤ 1099511627776) :
    Calls Tryd.prog 72 #[.pointer (some ⟨g, 0, none⟩), .int .i64 n] w (TakeP lo g w (takeG n bs why)) := by
  obtain ⟨A, c, hB, h1, h2, h3⟩ := id hR
  have x0 := hB.cell 0 (v := .slice A bs.length c) rfl
  have f0 := hB.frozen 0
  unfold maxLen at h2
  obtain ⟨r, hr⟩ : ∃ r, takeG n bs why = r := ⟨_, rfl⟩
  rw [hr]
  by_cases h : bs.length < n
  · have hst := stick_any w lo g bs why hR 4
    have hr1 : r = ([], if why = 0 then [] else bs, if why = 0 then 4 else why) := by
      rw [← hr]; unfold takeG; rw [if_pos h]; split <;> rfl
    have HR := Lib.hid hr1
    clear hr hr1
    obtain ⟨m, hm⟩ : ∃ m, bs.length = m := ⟨_, rfl⟩
    rw [hm] at x0 h h1
    clear hR hB h3 hm
    go_enter Tryd.func72, Tryd.ntmps72
    go_wp2_with (go_at_call 73; (with_reducible refine hst.mono ?_); rintro e w1 ⟨rfl, hR1, hX1⟩)
    go_ret
    rw [HR.out]
    exact ⟨none, 0, rfl, Nat.le_refl _, Rd.Sl.none _ _ none, hR1, hX1⟩
  · have hr1 : r = (bs.take n, bs.drop n, why) := by
      rw [← hr]; unfold takeG; rw [if_neg h]
    have HR := Lib.hid hr1
    clear hr hr1
    have hl : (bs.take n).length = n := by rw [List.length_take]; omega
    have hl2 : (bs.drop n).length = bs.length - n := by rw [List.length_drop]
    have hS1 : Rd.u8.Sl (only w lo g) A n (bs.take n) := ⟨hl, fun h0 => by
      obtain ⟨b, o, e, hc⟩ := h3.2 (by omega)
      refine ⟨b, o, e, fun i hi => ?_⟩
      rw [hl] at hi
      rw [List.getElem_take]
      exact hc i (by omega)⟩
    have hS2 := sl_rest h3 c n (by omega) h1
    have hB2 := hB.set_ 0 (.slice (restA A c n 1) (bs.length - n) (c - n))
    have hX : Exc g (g + 1) w (w.setCell ⟨g, 0, none⟩ (.slice (restA A c n 1) (bs.length - n) (c - n))) := Exc.setCell (Nat.le_refl g) (Nat.lt_succ_self g) _
    have hO := hX.only (l := lo) (h := g) (Nat.le_of_lt hB.lt) (.inl (Nat.le_refl _))
    rw [← hO] at hS1 hS2
    have hfin : RdrAt (w.setCell ⟨g, 0, none⟩ (.slice (restA A c n 1) (bs.length - n) (c - n))) lo g (bs.drop n) why := ⟨restA A c n 1, c - n, by rw [hl2]; exact hB2, by rw [hl2]; omega, by unfold maxLen; omega, by rw [hl2]; exact hS2⟩
    obtain ⟨m, hm⟩ : ∃ m, bs.length = m := ⟨_, rfl⟩
    rw [hm] at x0 h h1 hfin hX hO hS1
    have hl := Lib.hid hl
    clear hR hB h3 hm hS2 hB2 hO hl2
    go_enter Tryd.func72, Tryd.ntmps72
    go_wp2_with (first | (refine wpList_slice_to2 rfl elt_bytes (.tmp 18) (.tmp 19) (.tmp 20) rfl A m c n rfl rfl rfl (by omega) h1 ?_) | (refine wpList_slice_from rfl elt_bytes (.tmp 26) (.tmp 27) rfl A m c n rfl rfl (by omega) ?_))
    go_ret
    rw [HR.out]
    refine ⟨A, n, ?_, ?_, ?_, hfin, hX⟩
    · show _ = Ending.returned (.slice A (bs.take n).length n)
      rw [hl.out]; rfl
    · show (bs.take n).length ≤ n
      rw [hl.out]; exact Nat.le_refl _
    · show Rd.u8.Sl _ A (bs.take n).length (bs.take n)
      rw [hl.out]; exact hS1
set_option maxHeartbeats 1000000 in
set_option maxRecDepth 100000 in
theorem bad_any (w : World) (lo g : Nat) (bs : List UInt8) (why : Int) (hR : RdrAt w lo g bs why) :
    Calls Tryd.prog 74 #[.pointer (some ⟨g, 0, none⟩)] w fun e w' => e = .returned (.bool (why != 0)) ∧ w = w' := by
  obtain ⟨A, c, hB, -⟩ := hR
  have x1 := hB.cell 1 (v := .int .i64 why) rfl
  clear hB
  go_enter Tryd.func74, Tryd.ntmps74
  go_wp2_with fail
  go_ret
  exact ⟨rfl, rfl⟩
set_option maxHeartbeats 1000000 in
set_option maxRecDepth 100000 in
theorem end_any (w : World) (lo g : Nat) (bs : List UInt8) (why : Int) (hR : RdrAt w lo g bs why) :
    Calls Tryd.prog 55 #[.pointer (some ⟨g, 0, none⟩)] w fun e w' => e = .returned (.int .i64 (if 0 < bs.length then 5 else why)) ∧ w = w' := by
  obtain ⟨A, c, hB, h1, h2, -⟩ := hR
  have x0 := hB.cell 0 (v := .slice A bs.length c) rfl
  have x1 := hB.cell 1 (v := .int .i64 why) rfl
  clear hB
  unfold maxLen at h2
  generalize bs.length = n at *
  by_cases h : 0 < n
  · rw [if_pos h]
    go_enter Tryd.func55, Tryd.ntmps55
    go_wp2_with fail
    go_ret
    exact ⟨rfl, rfl⟩
  · rw [if_neg h]
    obtain rfl : n = 0 := by omega
    go_enter Tryd.func55, Tryd.ntmps55
    go_wp2_with fail
    go_ret
    exact ⟨rfl, rfl⟩
end Go.Proofs.YtkmjnbfhfjafpaaDoor
