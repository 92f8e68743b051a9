/- The program's reader of bytes. (and what follows) -/
import Derived.Test.YtgfhbachgniipaaDoorM2
import Derived.Laws.BitsLemmas
import Derived.Laws.IdiomStrings
import Derived.Test.YtgfhbachgniipaaDoorM1
/-! The program's reader of bytes. -/
namespace Go.Proofs.YtgfhbachgniipaaDoor
set_option linter.unusedVariables false
set_option linter.unusedSimpArgs false
open Go.RowKit
/-- At block g stands a reader: its bytes lie in the blocks from lo, below g; bytes that are left, the error that has stuck. -/
def RdrAt (w : World) (lo g : Nat) (bs : List UInt8) (why : Int) : Prop :=
  ∃ A c, Blk w g 112 #[.slice A bs.length c, .int .i64 why] ∧ bs.length ≤ c ∧ c ≤ maxLen ∧ Rd.u8.Sl (only w lo g) A bs.length bs
theorem RdrAt.exc {w w' : World} {lo g l h : Nat} {bs : List UInt8} {why : Int} (hR : RdrAt w lo g bs why) (hX : Exc l h w w') (hd : g < l ∨ (h ≤ lo ∧ h ≤ g)) : RdrAt w' lo g bs why := by
  obtain ⟨A, c, hB, h1, h2, h3⟩ := hR
  have hg := hB.lt
  refine ⟨A, c, (hX.block g hg (by omega)).trans hB, h1, h2, ?_⟩
  rw [hX.only (Nat.le_of_lt hg) (by omega)]
  exact h3
theorem RdrAt.ext {w w' : World} {lo g : Nat} {bs : List UInt8} {why : Int} (hR : RdrAt w lo g bs why) (hE : Ext w w') : RdrAt w' lo g bs why := by
  obtain ⟨A, c, hB, h1, h2, h3⟩ := hR
  refine ⟨A, c, hE.blk hB, h1, h2, ?_⟩
  rw [only_ext hE (Nat.le_of_lt hB.lt)]
  exact h3
/-- What is read and what is left: (the bytes, left, why). -/
def takeG (n : Nat) (bs : List UInt8) (why : Int) : List UInt8 × List UInt8 × Int :=
  if bs.length < n then ([], if why = 0 then ([], 4) else (bs, why)) else (bs.take n, bs.drop n, why)
set_option maxHeartbeats 1000000 in
set_option maxRecDepth 100000 in
theorem stick_any (w : World) (lo g : Nat) (bs : List UInt8) (why : Int) (hR : RdrAt w lo g bs why) (x : Int) :
    Calls Tryd.prog 70 #[.pointer (some ⟨g, 0, none⟩), .int .i64 x] w fun e w' => e = .returned (.tuple #[]) ∧ RdrAt w' lo g (if why = 0 then [] else bs) (if why = 0 then x else why) ∧ Exc g (g + 1) w w' := by
  obtain ⟨A, c, hB, h1, h2, h3⟩ := id hR
  have x0 := hB.cell 0 (v := .slice A bs.length c) rfl
  have x1 := hB.cell 1 (v := .int .i64 why) rfl
  have f0 := hB.frozen 0
  have f1 := hB.frozen 1
  by_cases h : why = 0
  · subst h
    have hB2 := (hB.set_ 1 (.int .i64 x)).set_ 0 (.slice none 0 0)
    have hX : Exc g (g + 1) w ((w.setCell ⟨g, 1, none⟩ (.int .i64 x)).setCell ⟨g, 0, none⟩ (.slice none 0 0)) := (Exc.setCell (Nat.le_refl g) (Nat.lt_succ_self g) _).trans (Exc.setCell (Nat.le_refl g) (Nat.lt_succ_self g) _)
    generalize bs.length = n at *
    clear h3
    go_enter Tryd.func70, Tryd.ntmps70
    go_wp2_with fail
    go_end0
    exact ⟨rfl, ⟨none, 0, hB2, Nat.le_refl _, by decide, Rd.Sl.none _ _ none⟩, hX⟩
  · have hz : (why == 0) = false := by simpa using h
    rw [if_neg h, if_neg h]
    generalize bs.length = n at *
    go_enter Tryd.func70, Tryd.ntmps70
    go_wp2_with fail
    go_end0
    exact ⟨rfl, hR, Exc.refl _ _ _⟩
theorem run_slice_to2 {P : Program} {t e : TypeId} {sz bytes : Nat} (E : Elt P t e sz bytes) (A : Option Addr) (n c i : Nat) (h : i ≤ n) (hc : n ≤ c) (w : World) : (Instr.sliceAt t (.slice A n c) none (some (.int .i64 i)) (some (.int .i64 i))).run P w = .ok (.slice A i i) w := by
  obtain ⟨inf, z, hi, hz, hsz, hby, hzc⟩ := E.hi
  have h0 := E.ht
  have he : P.elem t = e := by simp [Program.elem, h0]
  have h2 : P.underlying t = some (.slice (P.elem t)) := by rw [he]; exact h0
  rw [run_sliceAt_slice _ t _ _ _ _ h2, run_slice_hm _ t A n c h2 .i64 .i64 i i (by omega) (by omega) (by omega), he]
  simp [sizeOf, typeInfo, hi, hsz, sliced, Result.andThen, Addr.add]
theorem wpList_slice_to2 {P : Program} {t e : TypeId} {sz bytes : Nat} {w : World} {ops : Array Oper} {rest : List Oper} {o : Oper} {a : Act} {Q : Exit → Act → World → Prop} (hgd : o.guard = none) (E : Elt P t e sz bytes) (x y z : Operand) (ho : o.op = .slice t x none (some y) (some z))
    (A : Option Addr) (n c i : Nat) (hx : a.eval x = .slice A n c) (hy : a.eval y = .int .i64 (i : Int)) (hz : a.eval z = .int .i64 (i : Int)) (h : i ≤ n) (hc : n ≤ c) (k : wpList P ops Q rest (a.put o.dst (.slice A i i)) w) : wpList P ops Q (o :: rest) a w :=
  wpList_plain hgd fun K hK => by
    unfold Oper.wp execOp
    simp [ho, hx, hy, hz, run_slice_to2 E A n c i h hc w, Oper.upon]
    exact hK _ _ k
/-- What a reading method leaves: bytes in the reader's blocks, and the reader. -/
def TakeP (lo g : Nat) (w : World) (r : List UInt8 × List UInt8 × Int) (e : Ending) (w' : World) : Prop := ∃ A c, e = .returned (.slice A r.1.length c) ∧ r.1.length ≤ c ∧ Rd.u8.Sl (only w' lo g) A r.1.length r.1 ∧ RdrAt w' lo g r.2.1 r.2.2 ∧ Exc g (g + 1) w w'
set_option maxHeartbeats 1000000 in
set_option maxRecDepth 100000 in
theorem take_any (w : World) (lo g : Nat) (bs : List UInt8) (why : Int) (hR : RdrAt w lo g bs why) (n : Nat) (hn : n ≤ 1099511627776) :
    Calls Tryd.prog 66 #[.pointer (some ⟨g, 0, none⟩), .int .i64 n] w (TakeP lo g w (takeG n bs why)) := by
  obtain ⟨A, c, hB, h1, h2, h3⟩ := id hR
  have x0 := hB.cell 0 (v := .slice A bs.length c) rfl
  have f0 := hB.frozen 0
  unfold maxLen at h2
  obtain ⟨r, hr⟩ : ∃ r, takeG n bs why = r := ⟨_, rfl⟩
  rw [hr]
  by_cases h : bs.length < n
  · have hst := stick_any w lo g bs why hR 4
    have hr1 : r = ([], if why = 0 then [] else bs, if why = 0 then 4 else why) := by
      rw [← hr]; unfold takeG; rw [if_pos h]; split <;> rfl
    have HR := Lib.hid hr1
    clear hr hr1
    obtain ⟨m, hm⟩ : ∃ m, bs.length = m := ⟨_, rfl⟩
    rw [hm] at x0 h h1
    clear hR hB h3 hm
    go_enter Tryd.func66, Tryd.ntmps66
    go_wp2_with (go_at_call 70; (with_reducible refine hst.mono ?_); rintro e w1 ⟨rfl, hR1, hX1⟩)
    go_ret
    rw [HR.out]
    exact ⟨none, 0, rfl, Nat.le_refl _, Rd.Sl.none _ _ none, hR1, hX1⟩
  · have hr1 : r = (bs.take n, bs.drop n, why) := by
      rw [← hr]; unfold takeG; rw [if_neg h]
    have HR := Lib.hid hr1
    clear hr hr1
    have hl : (bs.take n).length = n := by rw [List.length_take]; omega
    have hl2 : (bs.drop n).length = bs.length - n := by rw [List.length_drop]
    have hS1 : Rd.u8.Sl (only w lo g) A n (bs.take n) := ⟨hl, fun h0 => by
      obtain ⟨b, o, e, hc⟩ := h3.2 (by omega)
      refine ⟨b, o, e, fun i hi => ?_⟩
      rw [hl] at hi
      rw [List.getElem_take]
      exact hc i (by omega)⟩
    have hS2 := sl_rest h3 c n (by omega) h1
    have hB2 := hB.set_ 0 (.slice (restA A c n 1) (bs.length - n) (c - n))
    have hX : Exc g (g + 1) w (w.setCell ⟨g, 0, none⟩ (.slice (restA A c n 1) (bs.length - n) (c - n))) := Exc.setCell (Nat.le_refl g) (Nat.lt_succ_self g) _
    have hO := hX.only (l := lo) (h := g) (Nat.le_of_lt hB.lt) (.inl (Nat.le_refl _))
    rw [← hO] at hS1 hS2
    have hfin : RdrAt (w.setCell ⟨g, 0, none⟩ (.slice (restA A c n 1) (bs.length - n) (c - n))) lo g (bs.drop n) why := ⟨restA A c n 1, c - n, by rw [hl2]; exact hB2, by rw [hl2]; omega, by unfold maxLen; omega, by rw [hl2]; exact hS2⟩
    obtain ⟨m, hm⟩ : ∃ m, bs.length = m := ⟨_, rfl⟩
    rw [hm] at x0 h h1 hfin hX hO hS1
    have hl := Lib.hid hl
    clear hR hB h3 hm hS2 hB2 hO hl2
    go_enter Tryd.func66, Tryd.ntmps66
    go_wp2_with (first | (refine wpList_slice_to2 rfl elt_bytes (.tmp 18) (.tmp 19) (.tmp 20) rfl A m c n rfl rfl rfl (by omega) h1 ?_) | (refine wpList_slice_from rfl elt_bytes (.tmp 26) (.tmp 27) rfl A m c n rfl rfl (by omega) ?_))
    go_ret
    rw [HR.out]
    refine ⟨A, n, ?_, ?_, ?_, hfin, hX⟩
    · show _ = Ending.returned (.slice A (bs.take n).length n)
      rw [hl.out]; rfl
    · show (bs.take n).length ≤ n
      rw [hl.out]; exact Nat.le_refl _
    · show Rd.u8.Sl _ A (bs.take n).length (bs.take n)
      rw [hl.out]; exact hS1
set_option maxHeartbeats 1000000 in
set_option maxRecDepth 100000 in
theorem bad_any (w : World) (lo g : Nat) (bs : List UInt8) (why : Int) (hR : RdrAt w lo g bs why) :
    Calls Tryd.prog 69 #[.pointer (some ⟨g, 0, none⟩)] w fun e w' => e = .returned (.bool (why != 0)) ∧ w = w' := by
  obtain ⟨A, c, hB, -⟩ := hR
  have x1 := hB.cell 1 (v := .int .i64 why) rfl
  clear hB
  go_enter Tryd.func69, Tryd.ntmps69
  go_wp2_with fail
  go_ret
  exact ⟨rfl, rfl⟩
set_option maxHeartbeats 1000000 in
set_option maxRecDepth 100000 in
theorem end_any (w : World) (lo g : Nat) (bs : List UInt8) (why : Int) (hR : RdrAt w lo g bs why) :
    Calls Tryd.prog 45 #[.pointer (some ⟨g, 0, none⟩)] w fun e w' => e = .returned (.int .i64 (if 0 < bs.length then 5 else why)) ∧ w = w' := by
  obtain ⟨A, c, hB, h1, h2, -⟩ := hR
  have x0 := hB.cell 0 (v := .slice A bs.length c) rfl
  have x1 := hB.cell 1 (v := .int .i64 why) rfl
  clear hB
  unfold maxLen at h2
  generalize bs.length = n at *
  by_cases h : 0 < n
  · rw [if_pos h]
    go_enter Tryd.func45, Tryd.ntmps45
    go_wp2_with fail
    go_ret
    exact ⟨rfl, rfl⟩
  · rw [if_neg h]
    obtain rfl : n = 0 := by omega
    go_enter Tryd.func45, Tryd.ntmps45
    go_wp2_with fail
    go_ret
    exact ⟨rfl, rfl⟩
end Go.Proofs.YtgfhbachgniipaaDoor

/-! The program's reader: numbers, counts, bytes, texts. -/
namespace Go.Proofs.YtgfhbachgniipaaDoor
set_option linter.unusedVariables false
set_option linter.unusedSimpArgs false
open Go.RowKit
def beN (p : List UInt8) : Nat := p.foldl (fun v x => v * 256 + x.toNat) 0
theorem beN_snoc (p : List UInt8) (x : UInt8) : beN (p ++ [x]) = beN p * 256 + x.toNat := by
  unfold beN; rw [List.foldl_append]; rfl
theorem beN_aux : ∀ (p : List UInt8) (v : Nat), p.foldl (fun v x => v * 256 + x.toNat) v < (v + 1) * 256 ^ p.length
  | [], v => by simp
  | x :: l, v => by
    have h := beN_aux l (v * 256 + x.toNat)
    have hx := x.toNat_lt
    rw [List.foldl_cons, List.length_cons, Nat.pow_succ]
    refine Nat.lt_of_lt_of_le h ?_
    generalize 256 ^ l.length = q
    rw [Nat.mul_comm q 256, ← Nat.mul_assoc]
    exact Nat.mul_le_mul_right _ (by omega)
theorem beN_lt (p : List UInt8) : beN p < 256 ^ p.length := by
  have := beN_aux p 0
  simpa [beN] using this
theorem or_byte (m x : Nat) (hm : m < 72057594037927936) (hx : x < 256) : bits .or .u64 ((m : Int) * 256) (x : Int) = ((m * 256 + x : Nat) : Int) := by
  rw [bits_join .u64 64 (by decide) (fun n h0 h1 => by rw [IntKind.wrap_u64]; omega) 8 _ _ (by omega) (by omega) (by omega) (by omega) (by omega) (by omega)]
  omega
def intG (bs : List UInt8) (why : Int) : Int × List UInt8 × Int := (wrap64 (beN (takeG 8 bs why).1), (takeG 8 bs why).2)
def IntP (g : Nat) (lo : Nat) (w : World) (r : Int × List UInt8 × Int) (e : Ending) (w' : World) : Prop := e = .returned (.int .i64 r.1) ∧ RdrAt w' lo g r.2.1 r.2.2 ∧ Exc g (g + 1) w w'
theorem takeG_len (n : Nat) (bs : List UInt8) (why : Int) : (takeG n bs why).1.length ≤ n := by
  unfold takeG; split
  · exact Nat.zero_le _
  · exact List.length_take_le _ _
set_option maxHeartbeats 1000000 in
set_option maxRecDepth 100000 in
theorem int_any (w : World) (lo g : Nat) (bs : List UInt8) (why : Int) (hR : RdrAt w lo g bs why) :
    Calls Tryd.prog 38 #[.pointer (some ⟨g, 0, none⟩)] w (IntP g lo w (intG bs why)) := by
  have ht := take_any w lo g bs why hR 8 (by omega)
  rw [show ((8 : Nat) : Int) = 8 from rfl] at ht
  have hl := takeG_len 8 bs why
  obtain ⟨r, hr⟩ : ∃ r, takeG 8 bs why = r := ⟨_, rfl⟩
  unfold intG
  rw [hr] at ht hl ⊢
  obtain ⟨p, q⟩ := r
  clear hR hr
  simp only at hl
  go_enter Tryd.func38, Tryd.ntmps38
  go_wp2_with (go_at_call 66; (with_reducible refine ht.mono ?_); rintro e w1 ⟨A, c, rfl, h1c, h1S, hR1, hX1⟩)
  obtain ⟨n, hn⟩ : ∃ n, p.length = n := ⟨_, rfl⟩
  have h1S := h1S.mono only_cle
  rw [hn] at hl h1c h1S
  simp only [hn]
  go_loop [3, 9] (fun s i => ∃ k m : Nat, k ≤ n ∧ i = .int .i64 k ∧ m = beN (p.take k) ∧ s = .int .u64 m) (fun _ i => n - (intOf i).toNat)
  case atStart => exact ⟨0, 0, by omega, rfl, rfl, rfl⟩
  case round =>
    obtain ⟨k, m, hkn, rfl, hm, rfl⟩ := hrel
    by_cases hlt : k < n
    · obtain ⟨b, o, rfl, x0⟩ := b_get h1S k hlt
      have hs := beN_snoc (p.take k) (p[k]'(by omega))
      rw [← List.take_succ_eq_append_getElem, ← hm] at hs
      have hb := beN_lt (p.take k)
      rw [← hm, List.length_take, Nat.min_eq_left (by omega)] at hb
      have hb2 : m < 72057594037927936 := Nat.lt_of_lt_of_le hb (by
        have : k ≤ 7 := by omega
        exact Nat.pow_le_pow_right (by decide) this)
      generalize p[k]'(by omega) = x at *
      have hx := x.toNat_lt
      have HS := Lib.hid hs
      have HJ := Lib.hid (or_byte m x.toNat hb2 hx)
      clear hm hs hb h1S
      go_wp2_with fail
      go_round
      case rel => exact ⟨k + 1, m * 256 + x.toNat, by omega, by go_num, HS.out.symm, by rw [HJ.out]⟩
      case measure => simp [intOf]; omega
    · obtain rfl : k = n := by omega
      rw [← hn, List.take_length] at hm
      clear h1S
      go_wp2_with fail
      go_ret
      exact ⟨rfl, hR1, hX1⟩
def countG (most : Int) (bs : List UInt8) (why : Int) : Int × List UInt8 × Int :=
  let r := intG bs why
  if r.2.2 = 0 then (if r.1 < 0 ∨ most < r.1 then (0, [], 3) else r) else (0, r.2)
set_option maxHeartbeats 1000000 in
set_option maxRecDepth 100000 in
theorem count_any (w : World) (lo g : Nat) (bs : List UInt8) (why : Int) (hR : RdrAt w lo g bs why) (most : Int) :
    Calls Tryd.prog 44 #[.pointer (some ⟨g, 0, none⟩), .int .i64 most] w (IntP g lo w (countG most bs why)) := by
  have ht := int_any w lo g bs why hR
  unfold countG
  obtain ⟨r, hr⟩ : ∃ r, intG bs why = r := ⟨_, rfl⟩
  rw [hr] at ht ⊢
  obtain ⟨v, q, y⟩ := r
  clear hR hr
  obtain ⟨z, hz⟩ : ∃ z, (if y = 0 then (if v < 0 ∨ most < v then ((0 : Int), ([] : List UInt8), (3 : Int)) else (v, q, y)) else (0, q, y)) = z := ⟨_, rfl⟩
  show Calls _ _ _ _ (IntP g lo w (if y = 0 then (if v < 0 ∨ most < v then ((0 : Int), ([] : List UInt8), (3 : Int)) else (v, q, y)) else (0, q, y)))
  rw [hz]
  go_enter Tryd.func44, Tryd.ntmps44
  go_upto_region 2 with (go_at_call 38; (with_reducible refine ht.mono ?_); rintro e w1 ⟨rfl, hR1, hX1⟩)
  have hb := bad_any w1 lo g q y hR1
  have hs := stick_any w1 lo g q y hR1 3
  obtain ⟨A, c, hB, h1, h2, h3⟩ := id hR1
  have x1 := hB.cell 1 (v := .int .i64 y) rfl
  clear hB h3 h1 h2
  by_cases hy : y = 0
  · rw [if_pos hy] at hz
    subst hy
    by_cases hv : v < 0 ∨ most < v
    · rw [if_pos hv] at hz
      rw [if_pos rfl, if_pos rfl] at hs
      have hb3 := fun w2 (h : RdrAt w2 lo g [] 3) => bad_any w2 lo g [] 3 h
      have HZ := Lib.hid hz
      clear hz hb
      go_wp2_with (first | (go_at_call 70; (with_reducible refine hs.mono ?_); rintro e w2 ⟨rfl, hR2, hX2⟩) | (go_at_call 69; (with_reducible refine (hb3 _ hR2).mono ?_); rintro e w3 ⟨rfl, rfl⟩))
      all_goals go_ret
      all_goals (rw [← HZ.out]; exact ⟨rfl, hR2, hX1.trans hX2⟩)
    · rw [if_neg hv] at hz
      have HZ := Lib.hid hz
      have hv1 : ¬ v < 0 := fun h => hv (.inl h)
      have hv2 : ¬ most < v := fun h => hv (.inr h)
      clear hz hs hv
      go_wp2_with (go_at_call 69; (with_reducible refine hb.mono ?_); rintro e w3 ⟨rfl, rfl⟩)
      go_ret
      rw [← HZ.out]
      exact ⟨rfl, hR1, hX1⟩
  · rw [if_neg hy] at hz
    have HZ := Lib.hid hz
    have hy1 : (y == 0) = false := by simpa using hy
    have hy2 : (y != 0) = true := by simpa using hy
    clear hz hs
    go_wp2_with (go_at_call 69; (with_reducible refine hb.mono ?_); rintro e w3 ⟨rfl, rfl⟩)
    go_ret
    rw [← HZ.out]
    exact ⟨rfl, hR1, hX1⟩
end Go.Proofs.YtgfhbachgniipaaDoor

/-! The program's reader: bytes, texts, and its beginning. -/
namespace Go.Proofs.YtgfhbachgniipaaDoor
set_option linter.unusedVariables false
set_option linter.unusedSimpArgs false
open Go.RowKit
theorem run_to_string (w : World) (A : Option Addr) (n c : Nat) (l : List UInt8) (hS : Rd.u8.Sl w A n l) : (convert 37 9 (.slice A n c)).run Tryd.prog w = .ok (.string ⟨l.toArray⟩) w := by
  have hn := hS.1
  subst hn
  cases A with
  | none =>
    rw [run_convert_bytes_nil w 37 5 Tryd.underlying37 Tryd.underlying5 _ c _ Tryd.underlying9]
    have hl : l = [] := by
      rcases Nat.eq_zero_or_pos l.length with h0 | h0
      · exact List.eq_nil_of_length_eq_zero h0
      · obtain ⟨b, o, e, _⟩ := hS.2 h0; cases e
    subst hl
    rfl
  | some ad =>
    refine run_convert_bytes_back w 37 9 5 ad c l Tryd.underlying37 Tryd.underlying5 Tryd.underlying9 fun j hj => ?_
    have hc := (b_cells hS).2.2 ad rfl j (.int .u8 l[j].toNat) (by
      have := flat_get (f := encB) (sz := 1) encB_len l j 0 hj (by decide)
      rw [Nat.mul_one, Nat.add_zero] at this
      rw [this]; rfl)
    exact hc
theorem wpList_to_string {w : World} {ops : Array Oper} {rest : List Oper} {o : Oper} {a : Act} {Q : Exit → Act → World → Prop} (hgd : o.guard = none) (x : Operand) (ho : o.op = .convert 37 9 x) (A : Option Addr) (n c : Nat) (l : List UInt8) (hx : a.eval x = .slice A n c) (hS : Rd.u8.Sl w A n l)
    (k : wpList Tryd.prog ops Q rest (a.put o.dst (.string ⟨l.toArray⟩)) w) : wpList Tryd.prog ops Q (o :: rest) a w :=
  wpList_plain hgd fun K hK => by
    unfold Oper.wp execOp
    simp [ho, hx, run_to_string w A n c l hS, Oper.upon]
    exact hK _ _ k
theorem countG_bd (most : Int) (bs : List UInt8) (why : Int) (h : (countG most bs why).2.2 = 0) : 0 ≤ (countG most bs why).1 ∧ (countG most bs why).1 ≤ most := by
  unfold countG at *
  generalize intG bs why = r at *
  simp only at *
  split at h
  · rename_i h0
    rw [if_pos h0]
    split at h
    · cases h
    · rename_i h1
      rw [if_neg h1]
      omega
  · rename_i h0
    exact absurd h h0
def blobG (most : Int) (bs : List UInt8) (why : Int) : List UInt8 × List UInt8 × Int :=
  if (countG most bs why).2.2 = 0 then takeG (countG most bs why).1.toNat (countG most bs why).2.1 0 else ([], (countG most bs why).2)
set_option maxHeartbeats 1000000 in
set_option maxRecDepth 100000 in
theorem blob_any (w : World) (lo g : Nat) (bs : List UInt8) (why : Int) (hR : RdrAt w lo g bs why) (most : Int) (hm : most ≤ 1099511627776) :
    Calls Tryd.prog 43 #[.pointer (some ⟨g, 0, none⟩), .int .i64 most] w (TakeP lo g w (blobG most bs why)) := by
  have ht := count_any w lo g bs why hR most
  have hbd := countG_bd most bs why
  unfold blobG
  obtain ⟨r, hr⟩ : ∃ r, countG most bs why = r := ⟨_, rfl⟩
  rw [hr] at ht hbd ⊢
  obtain ⟨v, q, y⟩ := r
  clear hR hr
  simp only at hbd
  show Calls _ _ _ _ (TakeP lo g w (if y = 0 then takeG v.toNat q 0 else ([], q, y)))
  obtain ⟨z, hz⟩ : ∃ z, (if y = 0 then takeG v.toNat q 0 else ([], q, y)) = z := ⟨_, rfl⟩
  rw [hz]
  go_enter Tryd.func43, Tryd.ntmps43
  go_upto_region 2 with (go_at_call 44; (with_reducible refine ht.mono ?_); rintro e w1 ⟨rfl, hR1, hX1⟩)
  have hb := bad_any w1 lo g q y hR1
  by_cases hy : y = 0
  · subst hy
    obtain ⟨n, rfl⟩ := Int.eq_ofNat_of_zero_le (hbd rfl).1
    have htk := take_any w1 lo g q 0 hR1 n (by have := (hbd rfl).2; omega)
    rw [if_pos rfl, Int.toNat_natCast] at hz
    rw [hz] at htk
    clear hz hbd
    go_wp2_with (first | (go_at_call 69; (with_reducible refine hb.mono ?_); rintro e w3 ⟨rfl, rfl⟩) | (go_at_call 66; (with_reducible refine htk.mono ?_); rintro e w3 ⟨A, c, rfl, h1, h2, h3, h4⟩))
    go_ret
    exact ⟨A, c, rfl, h1, h2, h3, hX1.trans h4⟩
  · rw [if_neg hy] at hz
    have HZ := Lib.hid hz
    have hy2 : (y != 0) = true := by simpa using hy
    clear hz hbd
    go_wp2_with (go_at_call 69; (with_reducible refine hb.mono ?_); rintro e w3 ⟨rfl, rfl⟩)
    go_ret
    rw [← HZ.out]
    exact ⟨none, 0, rfl, Nat.le_refl _, Rd.Sl.none _ _ none, hR1, hX1⟩
def textG (most : Int) (bs : List UInt8) (why : Int) : ByteArray × List UInt8 × Int := (⟨(blobG most bs why).1.toArray⟩, (blobG most bs why).2)
def TextP (lo g : Nat) (w : World) (r : ByteArray × List UInt8 × Int) (e : Ending) (w' : World) : Prop := e = .returned (.string r.1) ∧ RdrAt w' lo g r.2.1 r.2.2 ∧ Exc g (g + 1) w w'
set_option maxHeartbeats 1000000 in
set_option maxRecDepth 100000 in
theorem text_any (w : World) (lo g : Nat) (bs : List UInt8) (why : Int) (hR : RdrAt w lo g bs why) (most : Int) (hm : most ≤ 1099511627776) :
    Calls Tryd.prog 67 #[.pointer (some ⟨g, 0, none⟩), .int .i64 most] w (TextP lo g w (textG most bs why)) := by
  have ht := blob_any w lo g bs why hR most hm
  unfold textG
  obtain ⟨r, hr⟩ : ∃ r, blobG most bs why = r := ⟨_, rfl⟩
  rw [hr] at ht ⊢
  obtain ⟨p, q⟩ := r
  clear hR hr
  go_enter Tryd.func67, Tryd.ntmps67
  go_wp2_with (first | (go_at_call 43; (with_reducible refine ht.mono ?_); rintro e w1 ⟨A, c, rfl, h1, h2, h3, h4⟩; have h5 := h2.mono only_cle; simp only at h5; clear h1 h2) | (refine wpList_to_string rfl (.tmp 7) rfl A p.length c p rfl h5 ?_))
  go_ret
  exact ⟨rfl, h3, h4⟩
theorem eql_nil (w : World) (a : Option Addr) (n c : Nat) : (binOp .eql 37 (.slice a n c) (.slice none 0 0)).run Tryd.prog w = .ok (.bool a.isNone) w := by
  simp only [binOp]
  simp [Op.equal, Op.maxDepth, Lib.run_equalIn_slice_nil w 9999 37 5 a n c 0 0 Tryd.underlying37]
set_option maxHeartbeats 1000000 in
set_option maxRecDepth 100000 in
theorem clone_any (w : World) (A : Option Addr) (c : Nat) (l : List UInt8) (hS : Rd.u8.Sl w A l.length l) (hc : l.length ≤ c) (hn : l.length ≤ 4294967296) :
    Calls Tryd.prog 65 #[.slice A l.length c] w fun e w' => ∃ u, e = .returned u ∧ w'.ownsRow w.heap.size 5 1 u l.length (l.flatMap encB) ∧ Ext w w' := by
  have hcl := b_cells hS
  have h1 := encB_one l
  obtain ⟨n, hln⟩ : ∃ n, l.length = n := ⟨_, rfl⟩
  rw [hln] at hcl hc hn hS ⊢
  cases A with
  | none =>
    obtain rfl : n = 0 := hcl.2.1 rfl
    have hl : l = [] := List.eq_nil_of_length_eq_zero hln
    subst hl
    clear hcl hS hln h1
    have hq := fun w : World => eql_nil w (none : Option Addr) 0 c
    go_enter Tryd.func65, Tryd.ntmps65
    go_wp2_with fail
    go_ret
    exact ⟨_, rfl, World.ownsRow_nil _ _ _ _, Ext.refl _⟩
  | some ad =>
    generalize l.flatMap encB = L at *
    clear hS hln
    have hown0 := World.ownsRow_lit (w := w) (base := w.heap.size) (e := 5) (size := 1) #[] 0 (Nat.le_refl _) (by decide) rfl
    have hE0 : Ext w (w.alloc (.cells #[] 5)) := (Ext.refl w).alloc _
    have hcl1 : Cells (w.alloc (.cells #[] 5)) (some ad) n 1 L := ⟨hcl.1, hcl.2.1, fun a h j u hu => hE0.cellk (hcl.2.2 a h j u hu)⟩
    clear hcl
    have hq := fun w : World => eql_nil w (some ad) n c
    go_enter Tryd.func65, Tryd.ntmps65
    go_wp2_with (at_builtin; refine wpList_append_cells rfl elt_bytes (.tmp 5) (.tmp 6) rfl hown0 rfl rfl hcl1 h1 (by unfold maxLen; omega) (by omega) hE0.le ?_; intro v2 w2 hown2 hg2; have hE2 := grown_ext2 hE0 hown0 hg2 (Nat.le_refl _))
    go_ret
    exact ⟨_, rfl, by simpa using hown2, hE2⟩
set_option maxHeartbeats 1000000 in
set_option maxRecDepth 100000 in
theorem read_any (w : World) (A : Option Addr) (c : Nat) (l : List UInt8) (hS : Rd.u8.Sl w A l.length l) (hc : l.length ≤ c) (hn : l.length ≤ 4294967296) :
    Calls Tryd.prog 37 #[.slice A l.length c] w fun e w' => ∃ g, e = .returned (.pointer (some ⟨g, 0, none⟩)) ∧ RdrAt w' w.heap.size g l 0 ∧ w.heap.size ≤ g ∧ g + 1 = w'.heap.size ∧ Ext w w' := by
  have hcl := clone_any w A c l hS hc hn
  obtain ⟨n, hln⟩ : ∃ n, l.length = n := ⟨_, rfl⟩
  rw [hln] at hcl ⊢
  clear hS
  go_enter Tryd.func37, Tryd.ntmps37
  go_wp2_with (go_at_call 65; (with_reducible refine hcl.mono ?_); rintro e w1 ⟨u, rfl, hown, hE1⟩; obtain ⟨A1, c1, hu, h1, h2, h3⟩ := own_bytes (lo := w.heap.size) (hi := w1.heap.size) (l := l) (by rw [hln]; exact hown) (Nat.le_refl _) (Nat.le_refl _); rw [hln] at hu h1 h3; subst hu; clear hown hcl)
  go_ret
  refine ⟨w1.heap.size, rfl, ⟨A1, c1, ?_, by rw [hln]; exact h1, h2, ?_⟩, hE1.le, by simp, hE1.alloc _⟩
  · rw [hln]; exact Blk.new _ _ _
  · rw [hln, only_ext ((Ext.refl w1).alloc _) (Nat.le_refl _)]
    exact h3
end Go.Proofs.YtgfhbachgniipaaDoor

/-! The reader of the document's answer: it reads what the program's reads. -/
namespace Go.Proofs.YtgfhbachgniipaaDoor
set_option linter.unusedVariables false
set_option linter.unusedSimpArgs false
open Go.RowKit
theorem exec_slice_mid {P : Program} {t e : TypeId} {sz bytes : Nat} (E : Elt P t e sz bytes) {o : Oper} {a : Act} (x y z : Operand) (ho : o.op = .slice t x (some y) (some z) none) (A : Option Addr) (n c i j : Nat) (hx : a.eval x = .slice A n c) (hy : a.eval y = .int .i64 (i : Int)) (hz : a.eval z = .int .i64 (j : Int)) (hij : i ≤ j) (hjc : j ≤ c) (w : World) :
    (execOp a.eval o).run P w = .ok (.value (.slice (restA A c i sz) (j - i) (c - i))) w := by
  obtain ⟨inf, zz, hi, hz0, hsz, hby, hzc⟩ := E.hi
  have h0 := E.ht
  have he : P.elem t = e := by simp [Program.elem, h0]
  have h2 : P.underlying t = some (.slice (P.elem t)) := by rw [he]; exact h0
  unfold execOp
  simp only [ho, hx, hy, hz, Sem.run_bind, Option.map_some, Option.map_none]
  rw [run_sliceAt_slice _ t _ _ _ _ h2, run_slice_lh _ t A n c h2 .i64 .i64 i j (by omega) (by omega) (by omega), he]
  simp [sizeOf, typeInfo, hi, hsz, sliced, restA, Result.andThen]
end Go.Proofs.YtgfhbachgniipaaDoor

/-! The reader of the document's answer: numbers, counts, bytes, texts. -/
namespace Go.Proofs.YtgfhbachgniipaaDoor
set_option linter.unusedVariables false
set_option linter.unusedSimpArgs false
open Go.RowKit
end Go.Proofs.YtgfhbachgniipaaDoor

/-! Readers of bytes, step by step: what each step reads and leaves. -/
namespace Go.Proofs.YtgfhbachgniipaaDoor
set_option linter.unusedVariables false
set_option linter.unusedSimpArgs false
open Go.RowKit
abbrev St := List UInt8 × Int
def intS (s : St) : Int × St := intG s.1 s.2
def textS (most : Int) (s : St) : ByteArray × St := textG most s.1 s.2
def countS (most : Int) (s : St) : Int × St := countG most s.1 s.2
def blobS (most : Int) (s : St) : List UInt8 × St := blobG most s.1 s.2
def endS (s : St) : Int := if 0 < s.1.length then 5 else s.2
def blobsS (most : Int) : Nat → St → List (List UInt8) × St
  | 0, s => ([], s)
  | k + 1, s => ((blobsS most k s).1 ++ [(blobS most (blobsS most k s).2).1], (blobS most (blobsS most k s).2).2)
theorem intS_bd (s : St) : -9223372036854775808 ≤ (intS s).1 ∧ (intS s).1 ≤ 9223372036854775807 := by
  show -9223372036854775808 ≤ wrap64 _ ∧ wrap64 _ ≤ 9223372036854775807
  unfold wrap64
  generalize (beN (takeG 8 s.1 s.2).1 : Int) = x
  omega
theorem countS_bd (most : Int) (hm : 0 ≤ most) (s : St) : 0 ≤ (countS most s).1 ∧ (countS most s).1 ≤ most := by
  unfold countS countG
  generalize intG s.1 s.2 = r
  simp only
  split
  · split
    · exact ⟨Int.le_refl _, hm⟩
    · rename_i h
      omega
  · exact ⟨Int.le_refl _, hm⟩
theorem blobS_bd (most : Nat) (s : St) : (blobS most s).1.length ≤ most := by
  unfold blobS blobG
  have h := countS_bd most (by omega) s
  unfold countS at h
  split
  · refine Nat.le_trans (takeG_len _ _ _) ?_
    omega
  · exact Nat.zero_le _
theorem textS_bd (most : Nat) (s : St) : (textS most s).1.size ≤ most := by
  have h := blobS_bd most s
  show (blobG most s.1 s.2).1.toArray.size ≤ most
  simpa [blobS] using h
def RdrS (w : World) (lo g : Nat) (s : St) : Prop := RdrAt w lo g s.1 s.2
section
variable {w w' : World} {lo g : Nat} {s : St}
theorem RdrS.below (h : RdrS w lo g s) {B : Nat} (hB : Below B w w') (hg : g < B) : RdrS w' lo g s := by
  obtain ⟨A, c, hK, h1, h2, h3⟩ := h
  refine ⟨A, c, (hB.block g hg).trans hK, h1, h2, ?_⟩
  rw [only_keep fun b _ h2 => hB.block b (by omega)]
  exact h3
theorem RdrS.lt (h : RdrS w lo g s) : g < w.heap.size := by
  obtain ⟨A, c, hK, _⟩ := h
  exact hK.lt
end
theorem int_S {w : World} {lo g : Nat} {s : St} (hR : RdrS w lo g s) : Calls Tryd.prog 38 #[.pointer (some ⟨g, 0, none⟩)] w fun e w' => ∃ x s', intS s = (x, s') ∧ (-9223372036854775808 ≤ x ∧ x ≤ 9223372036854775807) ∧ e = .returned (.int .i64 x) ∧ RdrS w' lo g s' ∧ Exc g (g + 1) w w' := by
  refine (int_any w lo g s.1 s.2 hR).mono ?_
  rintro e w' ⟨rfl, h1, h2⟩
  exact ⟨_, _, rfl, intS_bd s, rfl, h1, h2⟩
theorem text_S {w : World} {lo g : Nat} {s : St} (hR : RdrS w lo g s) (most : Nat) (hm : most ≤ 1099511627776) : Calls Tryd.prog 67 #[.pointer (some ⟨g, 0, none⟩), .int .i64 most] w fun e w' => ∃ x s', textS most s = (x, s') ∧ x.size ≤ most ∧ e = .returned (.string x) ∧ RdrS w' lo g s' ∧ Exc g (g + 1) w w' := by
  refine (text_any w lo g s.1 s.2 hR most (by omega)).mono ?_
  rintro e w' ⟨rfl, h1, h2⟩
  exact ⟨_, _, rfl, textS_bd most s, rfl, h1, h2⟩
theorem countS_nat (most : Nat) (s : St) : ∃ n : Nat, (countS most s).1 = n ∧ n ≤ most := by
  have h := countS_bd most (by omega) s
  exact ⟨(countS most s).1.toNat, by omega, by omega⟩
theorem count_S {w : World} {lo g : Nat} {s : St} (hR : RdrS w lo g s) (most : Nat) : Calls Tryd.prog 44 #[.pointer (some ⟨g, 0, none⟩), .int .i64 most] w fun e w' => ∃ (n : Nat) (s' : St), countS most s = ((n : Int), s') ∧ n ≤ most ∧ e = .returned (.int .i64 n) ∧ RdrS w' lo g s' ∧ Exc g (g + 1) w w' := by
  refine (count_any w lo g s.1 s.2 hR most).mono ?_
  rintro e w' ⟨rfl, h1, h2⟩
  obtain ⟨n, hn, hm⟩ := countS_nat most s
  exact ⟨n, (countS most s).2, by rw [← hn], hm, by rw [← hn]; rfl, h1, h2⟩
theorem blob_S {w : World} {lo g : Nat} {s : St} (hR : RdrS w lo g s) (most : Nat) (hm : most ≤ 1099511627776) : Calls Tryd.prog 43 #[.pointer (some ⟨g, 0, none⟩), .int .i64 most] w fun e w' => ∃ (A : Option Addr) (n c : Nat) (p : List UInt8) (s' : St), blobS most s = (p, s') ∧ p.length = n ∧ n ≤ most ∧ e = .returned (.slice A n c) ∧ n ≤ c ∧ Rd.u8.Sl (only w' lo g) A n p ∧ RdrS w' lo g s' ∧ Exc g (g + 1) w w' := by
  refine (blob_any w lo g s.1 s.2 hR most (by omega)).mono ?_
  rintro e w' ⟨A, c, rfl, h1, h2, h3, h4⟩
  exact ⟨A, _, c, _, _, rfl, rfl, blobS_bd most s, rfl, h1, h2, h3, h4⟩
theorem end_S {w : World} {lo g : Nat} {s : St} (hR : RdrS w lo g s) : Calls Tryd.prog 45 #[.pointer (some ⟨g, 0, none⟩)] w fun e w' => e = .returned (.int .i64 (endS s)) ∧ w = w' := end_any w lo g s.1 s.2 hR
end Go.Proofs.YtgfhbachgniipaaDoor

/-! What was laid is read again; what is read was laid; what is cut short is too short: for each step, and for steps one behind the other. -/
namespace Go.Proofs.YtgfhbachgniipaaDoor
set_option linter.unusedVariables false
set_option linter.unusedSimpArgs false
open Go.RowKit
/-- f reads what e lays. -/
structure Codec {α : Type} (f : St → α × St) (e : α → List UInt8) (ok : α → Prop) : Prop where
  full : ∀ x rest, ok x → f (e x ++ rest, 0) = (x, (rest, 0))
  cut : ∀ x k, ok x → k < (e x).length → (f ((e x).take k, 0)).2 = ([], 4)
  stuck : (f ([], 4)).2 = ([], 4)
  inv : ∀ s x rest, f s = (x, (rest, 0)) → s = (e x ++ rest, 0) ∧ ok x
/-- One behind the other. -/
def pairS {α β : Type} (f : St → α × St) (g : St → β × St) (s : St) : (α × β) × St := (((f s).1, (g (f s).2).1), (g (f s).2).2)
theorem Codec.pair {α β : Type} {f : St → α × St} {g : St → β × St} {e : α → List UInt8} {d : β → List UInt8} {ok : α → Prop} {ok' : β → Prop} (hf : Codec f e ok) (hg : Codec g d ok') :
    Codec (pairS f g) (fun x => e x.1 ++ d x.2) (fun x => ok x.1 ∧ ok' x.2) where
  full := by
    rintro ⟨x, y⟩ rest ⟨hx, hy⟩
    show pairS f g (e x ++ d y ++ rest, 0) = _
    unfold pairS
    rw [List.append_assoc, hf.full x _ hx]
    simp only
    rw [hg.full y _ hy]
  cut := by
    rintro ⟨x, y⟩ k ⟨hx, hy⟩ hk
    show (g (f ((e x ++ d y).take k, 0)).2).2 = _
    have hk : k < (e x ++ d y).length := hk
    rw [List.length_append] at hk
    by_cases h : k < (e x).length
    · rw [List.take_append_of_le_length (by omega), hf.cut x k hx h]
      exact hg.stuck
    · rw [List.take_append, List.take_of_length_le (by omega), hf.full x _ hx]
      exact hg.cut y _ hy (by omega)
  stuck := by
    show (g (f ([], 4)).2).2 = _
    rw [hf.stuck]
    exact hg.stuck
  inv := by
    rintro s ⟨x, y⟩ rest h
    unfold pairS at h
    simp only [Prod.mk.injEq] at h
    obtain ⟨⟨rfl, h2⟩, h3⟩ := h
    obtain ⟨hs2, hok2⟩ := hg.inv (f s).2 y rest (by rw [← h2, ← h3])
    obtain ⟨hs1, hok1⟩ := hf.inv s (f s).1 _ (by rw [← hs2])
    refine ⟨?_, hok1, hok2⟩
    show s = (e (f s).1 ++ d y ++ rest, 0)
    rw [List.append_assoc]
    exact hs1
/-- The same under another name. -/
theorem Codec.iso {α β : Type} {f : St → α × St} {e : α → List UInt8} {ok : α → Prop} (hf : Codec f e ok) (i : α → β) (j : β → α) (hij : ∀ x, j (i x) = x) (hji : ∀ y, i (j y) = y) :
    Codec (fun s => (i (f s).1, (f s).2)) (fun y => e (j y)) (fun y => ok (j y)) where
  full := fun y rest hy => by simp only [hf.full (j y) rest hy, hji]
  cut := fun y k hy hk => hf.cut (j y) k hy hk
  stuck := hf.stuck
  inv := fun s y rest h => by
    simp only [Prod.mk.injEq] at h
    have := hf.inv s (f s).1 rest (by rw [← h.2])
    rw [← h.1, hij]
    exact this
def manyS {α : Type} (one : St → α × St) : Nat → St → List α × St
  | 0, s => ([], s)
  | k + 1, s => ((manyS one k s).1 ++ [(one (manyS one k s).2).1], (one (manyS one k s).2).2)
/-- How many, and each of them. -/
def listS {α : Type} (most : Int) (one : St → α × St) (s : St) : List α × St := manyS one (countS most s).1.toNat (countS most s).2
/-! numbers -/
theorem bv (v : Int) : ((byteAt v 0).toNat : Int) = v % 256 ∧ ((byteAt v 1).toNat : Int) = v / 256 % 256 ∧ ((byteAt v 2).toNat : Int) = v / 65536 % 256 ∧ ((byteAt v 3).toNat : Int) = v / 16777216 % 256 ∧ ((byteAt v 4).toNat : Int) = v / 4294967296 % 256 ∧ ((byteAt v 5).toNat : Int) = v / 1099511627776 % 256 ∧ ((byteAt v 6).toNat : Int) = v / 281474976710656 % 256 ∧ ((byteAt v 7).toNat : Int) = v / 72057594037927936 % 256 :=
  ⟨by have h := byteAt_val v 0; rw [show ((2 : Int) ^ (8 * 0)) = 1 from rfl, Int.ediv_one] at h; exact h, byteAt_val v 1, byteAt_val v 2, byteAt_val v 3, byteAt_val v 4, byteAt_val v 5, byteAt_val v 6, byteAt_val v 7⟩
theorem num_bytes (v : Int) : ((beN (num8 v) : Nat) : Int) = v % 18446744073709551616 := by
  obtain ⟨h0, h1, h2, h3, h4, h5, h6, h7⟩ := bv v
  unfold num8 beN
  rw [List.foldl_cons, List.foldl_cons, List.foldl_cons, List.foldl_cons, List.foldl_cons, List.foldl_cons, List.foldl_cons, List.foldl_cons, List.foldl_nil]
  generalize (byteAt v 0).toNat = b0 at *; generalize (byteAt v 1).toNat = b1 at *; generalize (byteAt v 2).toNat = b2 at *; generalize (byteAt v 3).toNat = b3 at *
  generalize (byteAt v 4).toNat = b4 at *; generalize (byteAt v 5).toNat = b5 at *; generalize (byteAt v 6).toNat = b6 at *; generalize (byteAt v 7).toNat = b7 at *
  omega
theorem wrap_num (v : Int) (hv : -9223372036854775808 ≤ v ∧ v ≤ 9223372036854775807) : wrap64 (beN (num8 v)) = v := by
  rw [num_bytes]
  unfold wrap64
  omega
theorem beN_inj : ∀ (n : Nat) (p q : List UInt8), p.length = n → q.length = n → beN p = beN q → p = q
  | 0, p, q, hp, hq, _ => by rw [List.eq_nil_of_length_eq_zero hp, List.eq_nil_of_length_eq_zero hq]
  | n + 1, p, q, hp, hq, h => by
    have hp0 : p ≠ [] := by rintro rfl; simp at hp
    have hq0 : q ≠ [] := by rintro rfl; simp at hq
    rw [← List.dropLast_concat_getLast hp0, ← List.dropLast_concat_getLast hq0] at h ⊢
    rw [beN_snoc, beN_snoc] at h
    have l1 := (p.getLast hp0).toNat_lt
    have l2 := (q.getLast hq0).toNat_lt
    have e1 : (p.getLast hp0) = (q.getLast hq0) := UInt8.toNat_inj.1 (by omega)
    have e2 := beN_inj n p.dropLast q.dropLast (by simp; omega) (by simp; omega) (by omega)
    rw [e1, e2]
theorem num_wrap (p : List UInt8) (hp : p.length = 8) : num8 (wrap64 (beN p)) = p := by
  refine beN_inj 8 _ _ rfl hp ?_
  obtain ⟨v, hv⟩ : ∃ v, wrap64 (beN p) = v := ⟨_, rfl⟩
  rw [hv]
  have h1 := num_bytes v
  have h2 := beN_lt p
  rw [hp] at h2
  have h3 : (256 : Nat) ^ 8 = 18446744073709551616 := by decide
  rw [h3] at h2
  unfold wrap64 at hv
  omega
/-! steps -/
def intOk (v : Int) : Prop := -9223372036854775808 ≤ v ∧ v ≤ 9223372036854775807
theorem take_full (n : Nat) (p rest : List UInt8) (h : p.length = n) : takeG n (p ++ rest) 0 = (p, rest, 0) := by
  unfold takeG
  rw [if_neg (by rw [List.length_append]; omega), ← h, List.take_left, List.drop_left]
theorem take_cut (n : Nat) (p : List UInt8) (h : p.length < n) : takeG n p 0 = ([], [], 4) := by
  unfold takeG
  rw [if_pos h, if_pos rfl]
theorem take_stuck (n : Nat) : takeG n [] 4 = ([], [], 4) := by
  unfold takeG
  split
  · rfl
  · simp
theorem take_inv (n : Nat) (bs : List UInt8) (why : Int) (p rest : List UInt8) (h : takeG n bs why = (p, rest, 0)) : bs = p ++ rest ∧ p.length = n ∧ why = 0 := by
  unfold takeG at h
  split at h
  · split at h
    · simp at h
    · rename_i h0 h1
      simp only [Prod.mk.injEq] at h
      exact absurd h.2.2 h1
  · simp only [Prod.mk.injEq] at h
    obtain ⟨rfl, rfl, rfl⟩ := h
    exact ⟨(List.take_append_drop n bs).symm, by rw [List.length_take]; omega, rfl⟩
theorem int_codec : Codec intS num8 intOk where
  full := fun x rest hx => by
    unfold intS intG
    rw [take_full 8 _ _ (num8_len x)]
    simp only [wrap_num x hx]
  cut := fun x k _ hk => by
    rw [num8_len] at hk
    unfold intS intG
    rw [take_cut 8 _ (by rw [List.length_take]; omega)]
  stuck := by
    unfold intS intG
    rw [take_stuck]
  inv := fun s x rest h => by
    obtain ⟨bs, why⟩ := s
    unfold intS intG at h
    simp only [Prod.mk.injEq] at h
    obtain ⟨h1, h2⟩ := h
    obtain ⟨p, hp⟩ : ∃ p, (takeG 8 bs why).1 = p := ⟨_, rfl⟩
    rw [hp] at h1
    obtain ⟨e1, e2, rfl⟩ := take_inv 8 bs why p rest (by rw [← hp, ← h2])
    refine ⟨?_, ?_⟩
    · rw [← h1, num_wrap p e2, e1]
    · rw [← h1]; unfold wrap64 intOk; omega
def cntOk (most : Int) (v : Int) : Prop := 0 ≤ v ∧ v ≤ most
theorem count_codec (most : Nat) (hm : most ≤ 4611686018427387904) : Codec (countS most) num8 (cntOk most) where
  full := fun x rest hx => by
    have h := int_codec.full x rest ⟨by have := hx.1; omega, by have := hx.2; omega⟩
    unfold intS at h
    unfold countS countG
    rw [h]
    have hx1 := hx.1
    have hx2 := hx.2
    simp only [if_true]
    rw [if_neg (by omega)]
  cut := fun x k hx hk => by
    have h := int_codec.cut x k ⟨by have := hx.1; omega, by have := hx.2; omega⟩ hk
    unfold intS at h
    unfold countS countG
    simp only [h]
    rw [if_neg (by decide)]
  stuck := by
    have h := int_codec.stuck
    unfold intS at h
    unfold countS countG
    simp only [h]
    rw [if_neg (by decide)]
  inv := fun s x rest h => by
    have hi := int_codec.inv s
    unfold countS countG at h
    unfold intS at hi
    obtain ⟨r, hr⟩ : ∃ r, intG s.1 s.2 = r := ⟨_, rfl⟩
    rw [hr] at h hi
    simp only at h
    split at h
    · split at h
      · simp at h
      · rename_i h1 h2
        subst h
        exact ⟨(hi x rest rfl).1, by omega, by omega⟩
    · rename_i h1
      simp only [Prod.mk.injEq] at h
      exact absurd (by rw [h.2]) h1
theorem blob_codec (most : Nat) (hm : most ≤ 4611686018427387904) : Codec (blobS most) (fun p => num8 p.length ++ p) (fun p => p.length ≤ most) where
  full := fun x rest hx => by
    have h := (count_codec most hm).full x.length (x ++ rest) ⟨by omega, by omega⟩
    unfold countS at h
    show blobG most (num8 x.length ++ x ++ rest) 0 = _
    unfold blobG
    rw [List.append_assoc, h]
    simp only [if_true, Int.toNat_natCast]
    rw [take_full _ _ _ rfl]
  cut := fun x k hx hk => by
    show (blobG most ((num8 x.length ++ x).take k) 0).2 = _
    have hk : k < (num8 x.length ++ x).length := hk
    rw [List.length_append, num8_len] at hk
    unfold blobG
    by_cases h : k < 8
    · have hc := (count_codec most hm).cut x.length k ⟨by omega, by omega⟩ (by rw [num8_len]; exact h)
      unfold countS at hc
      rw [List.take_append_of_le_length (by rw [num8_len]; omega)]
      simp only [hc]
      rw [if_neg (by decide)]
    · have hc := (count_codec most hm).full x.length (x.take (k - 8)) ⟨by omega, by omega⟩
      unfold countS at hc
      rw [List.take_append, List.take_of_length_le (by rw [num8_len]; omega), num8_len, hc]
      simp only [if_true, Int.toNat_natCast]
      rw [take_cut _ _ (by rw [List.length_take]; omega)]
  stuck := by
    have hc := (count_codec most hm).stuck
    unfold countS at hc
    show (blobG most [] 4).2 = _
    unfold blobG
    simp only [hc]
    rw [if_neg (by decide)]
  inv := fun s x rest h => by
    have hc := (count_codec most hm).inv s
    unfold countS at hc
    unfold blobS blobG at h
    obtain ⟨⟨n, q, y⟩, hr⟩ : ∃ r, countG most s.1 s.2 = r := ⟨_, rfl⟩
    rw [hr] at h hc
    simp only at h
    split at h
    · rename_i hy
      subst hy
      obtain ⟨h1, h2⟩ := hc n q rfl
      obtain ⟨e1, e2, -⟩ := take_inv _ _ _ _ _ h
      have h20 := h2.1
      have h21 := h2.2
      refine ⟨?_, by omega⟩
      rw [h1, e1, show (x.length : Int) = n by omega, List.append_assoc]
    · rename_i hy
      simp only [Prod.mk.injEq] at h
      exact absurd h.2.2 hy
theorem bytes_eq (x : ByteArray) : (⟨x.data.toList.toArray⟩ : ByteArray) = x := by
  cases x; simp
theorem text_codec (most : Nat) (hm : most ≤ 4611686018427387904) : Codec (textS most) txtB (fun s => s.size ≤ most) := by
  have h := (blob_codec most hm).iso (fun p => (⟨p.toArray⟩ : ByteArray)) (fun s => s.data.toList) (fun p => by simp) bytes_eq
  have e : ∀ s : ByteArray, s.data.toList.length = s.size := fun s => by rw [Array.length_toList]; rfl
  refine ⟨fun x rest hx => ?_, fun x k hx hk => ?_, h.stuck, fun s x rest hs => ?_⟩
  · have := h.full x rest (by rw [e]; exact hx)
    rw [e] at this
    exact this
  · have := h.cut x k (by rw [e]; exact hx) (by rw [e]; exact hk)
    rw [e] at this
    exact this
  · obtain ⟨h1, h2⟩ := h.inv s x rest hs
    rw [e] at h1 h2
    exact ⟨h1, h2⟩
theorem many_full {α : Type} {f : St → α × St} {e : α → List UInt8} {ok : α → Prop} (hf : Codec f e ok) (l : List α) (hl : ∀ x ∈ l, ok x) (rest : List UInt8) : ∀ k, k ≤ l.length → manyS f k (l.flatMap e ++ rest, 0) = (l.take k, ((l.drop k).flatMap e ++ rest, 0))
  | 0, _ => by simp [manyS]
  | k + 1, h => by
    unfold manyS
    rw [many_full hf l hl rest k (by omega)]
    simp only
    rw [List.drop_eq_getElem_cons (by omega), List.flatMap_cons, List.append_assoc, hf.full _ _ (hl _ (List.getElem_mem _))]
    rw [List.take_succ_eq_append_getElem (by omega)]
theorem many_stuck {α : Type} {f : St → α × St} {e : α → List UInt8} {ok : α → Prop} (hf : Codec f e ok) : ∀ k, (manyS f k ([], 4)).2 = ([], 4)
  | 0 => rfl
  | k + 1 => by
    show (f (manyS f k ([], 4)).2).2 = _
    rw [many_stuck hf k]
    exact hf.stuck
/-- From the front. -/
theorem many_succ {α : Type} (f : St → α × St) : ∀ (k : Nat) (s : St), manyS f (k + 1) s = ((f s).1 :: (manyS f k (f s).2).1, (manyS f k (f s).2).2)
  | 0, s => rfl
  | k + 1, s => by
    rw [manyS, many_succ f k s]
    rfl
theorem many_cut {α : Type} {f : St → α × St} {e : α → List UInt8} {ok : α → Prop} (hf : Codec f e ok) : ∀ (l : List α) (k : Nat), (∀ x ∈ l, ok x) → k < (l.flatMap e).length → (manyS f l.length ((l.flatMap e).take k, 0)).2 = ([], 4)
  | [], k, _, h => by simp at h
  | x :: l, k, hl, h => by
    rw [List.length_cons, many_succ]
    simp only
    rw [List.flatMap_cons, List.length_append] at h
    rw [List.flatMap_cons]
    by_cases hk : k < (e x).length
    · rw [List.take_append_of_le_length (by omega), hf.cut x k (hl x (by simp)) hk]
      exact many_stuck hf _
    · rw [List.take_append, List.take_of_length_le (by omega), hf.full x _ (hl x (by simp))]
      exact many_cut hf l _ (fun y hy => hl y (by simp [hy])) (by omega)
theorem many_inv {α : Type} {f : St → α × St} {e : α → List UInt8} {ok : α → Prop} (hf : Codec f e ok) : ∀ (k : Nat) (s : St) (l : List α) (rest : List UInt8), manyS f k s = (l, (rest, 0)) → s = (l.flatMap e ++ rest, 0) ∧ l.length = k ∧ ∀ x ∈ l, ok x
  | 0, s, l, rest, h => by
    simp only [manyS, Prod.mk.injEq] at h
    obtain ⟨rfl, rfl⟩ := h
    exact ⟨rfl, rfl, fun x hx => by cases hx⟩
  | k + 1, s, l, rest, h => by
    rw [many_succ] at h
    simp only [Prod.mk.injEq] at h
    obtain ⟨rfl, h2⟩ := h
    obtain ⟨h3, h4, h5⟩ := many_inv hf k (f s).2 _ rest (by rw [← h2])
    obtain ⟨h6, h7⟩ := hf.inv s (f s).1 _ (by rw [← h3])
    refine ⟨?_, by rw [List.length_cons, h4], fun x hx => ?_⟩
    · rw [List.flatMap_cons, List.append_assoc]; exact h6
    · rcases List.mem_cons.1 hx with rfl | hx
      · exact h7
      · exact h5 x hx
theorem list_codec {α : Type} {f : St → α × St} {e : α → List UInt8} {ok : α → Prop} (hf : Codec f e ok) (most : Nat) (hm : most ≤ 4611686018427387904) :
    Codec (listS most f) (fun l => num8 l.length ++ l.flatMap e) (fun l => l.length ≤ most ∧ ∀ x ∈ l, ok x) where
  full := fun l rest hl => by
    have h := (count_codec most hm).full l.length (l.flatMap e ++ rest) ⟨by omega, by have := hl.1; omega⟩
    unfold listS
    rw [List.append_assoc, h]
    simp only [Int.toNat_natCast]
    rw [many_full hf l hl.2 rest _ (Nat.le_refl _)]
    simp
  cut := fun l k hl hk => by
    rw [List.length_append, num8_len] at hk
    unfold listS
    by_cases h : k < 8
    · have hc := (count_codec most hm).cut l.length k ⟨by omega, by have := hl.1; omega⟩ (by rw [num8_len]; exact h)
      rw [List.take_append_of_le_length (by rw [num8_len]; omega), hc]
      exact many_stuck hf _
    · have hc := (count_codec most hm).full l.length ((l.flatMap e).take (k - 8)) ⟨by omega, by have := hl.1; omega⟩
      rw [List.take_append, List.take_of_length_le (by rw [num8_len]; omega), num8_len, hc]
      simp only [Int.toNat_natCast]
      exact many_cut hf l _ hl.2 (by omega)
  stuck := by
    unfold listS
    rw [(count_codec most hm).stuck]
    exact many_stuck hf _
  inv := fun s l rest h => by
    unfold listS at h
    obtain ⟨h1, h2, h3⟩ := many_inv hf _ _ l rest h
    obtain ⟨h4, h5⟩ := (count_codec most hm).inv s (countS most s).1 _ (by rw [← h1])
    have h50 := h5.1
    have h51 := h5.2
    refine ⟨?_, by omega, h3⟩
    rw [List.append_assoc, show (l.length : Int) = (countS most s).1 by omega]
    exact h4
end Go.Proofs.YtgfhbachgniipaaDoor
