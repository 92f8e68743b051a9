/- The program's reader: bytes, texts, and its beginning. -/
import Derived.Test.YtkmjnbfhfjafpaaDoorReaderB
import Derived.Laws.IdiomStrings
namespace Go.Proofs.YtkmjnbfhfjafpaaDoor
set_option linter.unusedVariables false
set_option linter.unusedSimpArgs false
open Go.RowKit
theorem run_to_string (w : World) (A : Option Addr) (n c : Nat) (l : List UInt8) (hS : Rd.u8.Sl w A n l) : (convert 29 9 (.slice A n c)).run Tryd.prog w = .ok (.string ⟨l.toArray⟩) w := by
  have hn := hS.1
  subst hn
  cases A with
  | none =>
    rw [run_convert_bytes_nil w 29 5 Tryd.underlying29 Tryd.underlying5 _ c _ Tryd.underlying9]
    have hl : l = [] := by
      rcases Nat.eq_zero_or_pos l.length with h0 | h0
      · exact List.eq_nil_of_length_eq_zero h0
      · obtain ⟨b, o, e, _⟩ := hS.2 h0; cases e
    subst hl
    rfl
  | some ad =>
    refine run_convert_bytes_back w 29 9 5 ad c l Tryd.underlying29 Tryd.underlying5 Tryd.underlying9 fun j hj => ?_
    have hc := (b_cells hS).2.2 ad rfl j (.int .u8 l[j].toNat) (by
      have := flat_get (f := encB) (sz := 1) encB_len l j 0 hj (by decide)
      rw [Nat.mul_one, Nat.add_zero] at this
      rw [this]; rfl)
    exact hc
theorem wpList_to_string {w : World} {ops : Array Oper} {rest : List Oper} {o : Oper} {a : Act} {Q : Exit → Act → World → Prop} (hgd : o.guard = none) (x : Operand) (ho : o.op = .convert 29 9 x) (A : Option Addr) (n c : Nat) (l : List UInt8) (hx : a.eval x = .slice A n c) (hS : Rd.u8.Sl w A n l)
    (k : wpList Tryd.prog ops Q rest (a.put o.dst (.string ⟨l.toArray⟩)) w) : wpList Tryd.prog ops Q (o :: rest) a w :=
  wpList_plain hgd fun K hK => by
    unfold Oper.wp execOp
    simp [ho, hx, run_to_string w A n c l hS, Oper.upon]
    exact hK _ _ k
theorem countG_bd (most : Int) (bs : List UInt8) (why : Int) (h : (countG most bs why).2.2 = 0) : 0 ≤ (countG most bs why).1 ∧ (countG most bs why).1 ≤ most := by
  unfold countG at *
  generalize intG bs why = r at *
  simp only at *
  split at h
  · rename_i h0
    rw [if_pos h0]
    split at h
    · cases h
    · rename_i h1
      rw [if_neg h1]
      omega
  · rename_i h0
    exact absurd h h0
def blobG (most : Int) (bs : List UInt8) (why : Int) : List UInt8 × List UInt8 × Int :=
  if (countG most bs why).2.2 = 0 then takeG (countG most bs why).1.toNat (countG most bs why).2.1 0 else ([], (countG most bs why).2)
set_option maxHeartbeats 1000000 in
set_option maxRecDepth 100000 in
theorem blob_any (w : World) (lo g : Nat) (bs : List UInt8) (why : Int) (hR : RdrAt w lo g bs why) (most : Int) (hm : most ≤ 1099511627776) :
    Calls Tryd.prog 54 #[.pointer (some ⟨g, 0, none⟩), .int .i64 most] w (TakeP lo g w (blobG most bs why)) := by
  have ht := count_any w lo g bs why hR most
  have hbd := countG_bd most bs why
  unfold blobG
  obtain ⟨r, hr⟩ : ∃ r, countG most bs why = r := ⟨_, rfl⟩
  rw [hr] at ht hbd ⊢
  obtain ⟨v, q, y⟩ := r
  clear hR hr
  simp only at hbd
  show Calls _ _ _ _ (TakeP lo g w (if y = 0 then takeG v.toNat q 0 else ([], q, y)))
  obtain ⟨z, hz⟩ : ∃ z, (if y = 0 then takeG v.toNat q 0 else ([], q, y)) = z := ⟨_, rfl⟩
  rw [hz]
  go_enter Tryd.func54, Tryd.ntmps54
  go_upto_region 2 with (go_at_call 53; (with_reducible refine ht.mono ?_); rintro e w1 ⟨rfl, hR1, hX1⟩)
  have hb := bad_any w1 lo g q y hR1
  by_cases hy : y = 0
  · subst hy
    obtain ⟨n, rfl⟩ := Int.eq_ofNat_of_zero_le (hbd rfl).1
    have htk := take_any w1 lo g q 0 hR1 n (by have := (hbd rfl).2; omega)
    rw [if_pos rfl, Int.toNat_natCast] at hz
    rw [hz] at htk
    clear hz hbd
    go_wp2_with (first | (go_at_call 74; (with_reducible refine hb.mono ?_); rintro e w3 ⟨rfl, rfl⟩) | (go_at_call 72; (with_reducible refine htk.mono ?_); rintro e w3 ⟨A, c, rfl, h1, h2, h3, h4⟩))
    go_ret
    exact ⟨A, c, rfl, h1, h2, h3, hX1.trans h4⟩
  · rw [if_neg hy] at hz
    have HZ := Lib.hid hz
    have hy2 : (y != 0) = true := by simpa using hy
    clear hz hbd
    go_wp2_with (go_at_call 74; (with_reducible refine hb.mono ?_); rintro e w3 ⟨rfl, rfl⟩)
    go_ret
    rw [← HZ.out]
    exact ⟨none, 0, rfl, Nat.le_refl _, Rd.Sl.none _ _ none, hR1, hX1⟩
def textG (most : Int) (bs : List UInt8) (why : Int) : ByteArray × List UInt8 × Int := (⟨(blobG most bs why).1.toArray⟩, (blobG most bs why).2)
def TextP (lo g : Nat) (w : World) (r : ByteArray × List UInt8 × Int) (e : Ending) (w' : World) : Prop := e = .returned (.string r.1) ∧ RdrAt w' lo g r.2.1 r.2.2 ∧ Exc g (g + 1) w w'
set_option maxHeartbeats 1000000 in
set_option maxRecDepth 100000 in
theorem text_any (w : World) (lo g : Nat) (bs : List UInt8) (why : Int) (hR : RdrAt w lo g bs why) (most : Int) (hm : most ≤ 1099511627776) :
    Calls Tryd.prog 51 #[.pointer (some ⟨g, 0, none⟩), .int .i64 most] w (TextP lo g w (textG most bs why)) := by
  have ht := blob_any w lo g bs why hR most hm
  unfold textG
  obtain ⟨r, hr⟩ : ∃ r, blobG most bs why = r := ⟨_, rfl⟩
  rw [hr] at ht ⊢
  obtain ⟨p, q⟩ := r
  clear hR hr
  go_enter Tryd.func51, Tryd.ntmps51
  go_wp2_with (first | (go_at_call 54; (with_reducible refine ht.mono ?_); rintro e w1 ⟨A, c, rfl, h1, h2, h3, h4⟩; have h5 := h2.mono only_cle; simp only at h5; clear h1 h2) | (refine wpList_to_string rfl (.tmp 7) rfl A p.length c p rfl h5 ?_))
  go_ret
  exact ⟨rfl, h3, h4⟩
theorem eql_nil (w : World) (a : Option Addr) (n c : Nat) : (binOp .eql 29 (.slice a n c) (.slice none 0 0)).run Tryd.prog w = .ok (.bool a.isNone) w := by
  simp only [binOp]
  simp [Op.equal, Op.maxDepth, Lib.run_equalIn_slice_nil w 9999 29 5 a n c 0 0 Tryd.underlying29]
set_option maxHeartbeats 1000000 in
set_option maxRecDepth 100000 in
theorem clone_any (w : World) (A : Option Addr) (c : Nat) (l : List UInt8) (hS : Rd.u8.Sl w A l.length l) (hc : l.length ≤ c) (hn : l.length ≤ 4294967296) :
    Calls Tryd.prog 71 #[.slice A l.length c] w fun e w' => ∃ u, e = .returned u ∧ w'.ownsRow w.heap.size 5 1 u l.length (l.flatMap encB) ∧ Ext w w' := by
  have hcl := b_cells hS
  have h1 := encB_one l
  obtain ⟨n, hln⟩ : ∃ n, l.length = n := ⟨_, rfl⟩
  rw [hln] at hcl hc hn hS ⊢
  cases A with
  | none =>
    obtain rfl : n = 0 := hcl.2.1 rfl
    have hl : l = [] := List.eq_nil_of_length_eq_zero hln
    subst hl
    clear hcl hS hln h1
    have hq := fun w : World => eql_nil w (none : Option Addr) 0 c
    go_enter Tryd.func71, Tryd.ntmps71
    go_wp2_with fail
    go_ret
    exact ⟨_, rfl, World.ownsRow_nil _ _ _ _, Ext.refl _⟩
  | some ad =>
    generalize l.flatMap encB = L at *
    clear hS hln
    have hown0 := World.ownsRow_lit (w := w) (base := w.heap.size) (e := 5) (size := 1) #[] 0 (Nat.le_refl _) (by decide) rfl
    have hE0 : Ext w (w.alloc (.cells #[] 5)) := (Ext.refl w).alloc _
    have hcl1 : Cells (w.alloc (.cells #[] 5)) (some ad) n 1 L := ⟨hcl.1, hcl.2.1, fun a h j u hu => hE0.cellk (hcl.2.2 a h j u hu)⟩
    clear hcl
    have hq := fun w : World => eql_nil w (some ad) n c
    go_enter Tryd.func71, Tryd.ntmps71
    go_wp2_with (at_builtin; refine wpList_append_cells rfl elt_bytes (.tmp 5) (.tmp 6) rfl hown0 rfl rfl hcl1 h1 (by unfold maxLen; omega) (by omega) hE0.le ?_; intro v2 w2 hown2 hg2; have hE2 := grown_ext2 hE0 hown0 hg2 (Nat.le_refl _))
    go_ret
    exact ⟨_, rfl, by simpa using hown2, hE2⟩
set_option maxHeartbeats 1000000 in
set_option maxRecDepth 100000 in
theorem read_any (w : World) (A : Option Addr) (c : Nat) (l : List UInt8) (hS : Rd.u8.Sl w A l.length l) (hc : l.length ≤ c) (hn : l.length ≤ 4294967296) :
    Calls Tryd.prog 49 #[.slice A l.length c] w fun e w' => ∃ g, e = .returned (.pointer (some ⟨g, 0, none⟩)) ∧ RdrAt w' w.heap.size g l 0 ∧ w.heap.size ≤ g ∧ g + 1 = w'.heap.size ∧ Ext w w' := by
  have hcl := clone_any w A c l hS hc hn
  obtain ⟨n, hln⟩ : ∃ n, l.length = n := ⟨_, rfl⟩
  rw [hln] at hcl ⊢
  clear hS
  go_enter Tryd.func49, Tryd.ntmps49
  go_wp2_with (go_at_call 71; (with_reducible refine hcl.mono ?_); rintro e w1 ⟨u, rfl, hown, hE1⟩; obtain ⟨A1, c1, hu, h1, h2, h3⟩ := own_bytes (lo := w.heap.size) (hi := w1.heap.size) (l := l) (by rw [hln]; exact hown) (Nat.le_refl _) (Nat.le_refl _); rw [hln] at hu h1 h3; subst hu; clear hown hcl)
  go_ret
  refine ⟨w1.heap.size, rfl, ⟨A1, c1, ?_, by rw [hln]; exact h1, h2, ?_⟩, hE1.le, by simp, hE1.alloc _⟩
  · rw [hln]; exact Blk.new _ _ _
  · rw [hln, only_ext ((Ext.refl w1).alloc _) (Nat.le_refl _)]
    exact h3
end Go.Proofs.YtkmjnbfhfjafpaaDoor
