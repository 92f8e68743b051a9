/- What the closed statement on records uses: rows, records with a field set, bytes with one of them turned. -/
import Derived.Test.YtkmjnbfhfjafpaaDoorRecFields
import Derived.Laws.BitsAllLaws
namespace Go.Proofs.YtkmjnbfhfjafpaaDoor
set_option linter.unusedVariables false
set_option linter.unusedSimpArgs false
open Go.RowKit
def rowL (n : Nat) : List UInt8 := (List.range n).map fun i => UInt8.ofNat ((7 + i) % 251)
theorem rowL_len (n : Nat) : (rowL n).length = n := by simp [rowL]
theorem rowL_one (n : Nat) : (rowL (n + 1)).flatMap encB = (rowL n).flatMap encB ++ [.int .u8 (((7 + n) % 251 : Nat) : Int)] := by
  unfold rowL
  rw [List.range_succ, List.map_append, List.flatMap_append]
  have h : (7 + n) % 251 < 256 := by omega
  simp [encB, UInt8.toNat_ofNat', Nat.mod_eq_of_lt h]
set_option maxHeartbeats 1000000 in
set_option maxRecDepth 100000 in
theorem row_any (n : Nat) (hn : n ≤ 1000000) (w : World) : Calls Tryd.prog 27 #[.int .i64 n] w fun e w' => ∃ v, e = .returned v ∧ w'.ownsRow w.heap.size 5 1 v n ((rowL n).flatMap encB) ∧ Ext w w' := by
  go_enter Tryd.func27, Tryd.ntmps27
  go_wp2_with fail
  go_loopw [3, 4] (fun s3 i wr => ∃ k : Nat, k ≤ n ∧ i = .int .i64 k ∧ wr.ownsRow w.heap.size 5 1 s3 k ((rowL k).flatMap encB) ∧ Ext w wr) (fun _ i _ => n - (intOf i).toNat)
  case atStart => exact ⟨0, by omega, rfl, World.ownsRow_nil _ _ _ _, Ext.refl _⟩
  case round =>
    obtain ⟨k, hkn, rfl, hown, hwr⟩ := hrel
    by_cases hlt : k < n
    · have htk := rowL_one k
      obtain ⟨z, hz⟩ : ∃ z, (7 + k) % 251 = z := ⟨_, rfl⟩
      rw [hz] at htk
      have hz2 : IntKind.u8.wrap (((7 : Int) + (k : Int)) % 251) = (z : Int) := by
        rw [← hz]
        simp only [IntKind.wrap, IntKind.signed, IntKind.bits]
        simp
        omega
      clear hz
      go_wp2_with (at_builtin; refine wpList_append_cells (news := [.int .u8 (z : Int)]) rfl elt_bytes (.tmp 10) (.tmp 15) rfl (hown.alloc _) rfl rfl ?c0 ?c1 ?c2 ?c3 ?c4 ?_)
      case c0 => exact ⟨rfl, (fun h => by cases h), fun ad h j u hu => (by cases h; exact new_cells wr _ #[.int .u8 (z : Int)] j u hu)⟩
      case c1 => intro u hu; simp at hu; subst hu; rfl
      case c2 => unfold maxLen; omega
      case c3 => omega
      case c4 => have := hwr.le; simp; omega
      intro v' w3 hown' hgrow
      have hE := grown_ext (hwr.alloc _) (hown.alloc _) hgrow
      rw [← htk] at hown'
      clear hown hgrow htk
      go_wp2_with fail
      go_roundw
      case rel => exact ⟨k + 1, by omega, by go_num, hown', hE⟩
      case measure => simp [intOf]; omega
    · obtain rfl : k = n := by omega
      go_wp2_with fail
      go_ret
      exact ⟨_, rfl, hown, hwr⟩
/-- The chapter's record with one field set. -/
def lset (q : Nat) (x : Int) : Rec := match q with
  | 0 => { laidR with clock := x }
  | 1 => { laidR with kind := x }
  | 2 => { laidR with code := x }
  | 3 => { laidR with id := x }
  | 4 => { laidR with slot := x }
  | _ => { laidR with uses := x }
def mset (q : Int) (x : Int) : Rec := ⟨⟨#[97, 110, 110]⟩, 5, q, 0, 1, ⟨#[]⟩, ⟨#[]⟩, 0, 0, x, []⟩
theorem rin_mk {r : Rec} (hn : r.sealed.length ≤ 1000) (hm : ∀ x ∈ r.sealed, x.length ≤ 1000) (h0 : r.ten.size ≤ 1000) (h1 : r.st.size ≤ 1000) (h2 : r.su.size ≤ 1000) (hi : RecInts r) : RecIn r :=
  ⟨Nat.le_trans hn (by decide), fun x hx => Nat.le_trans (hm x hx) (by decide), Nat.le_trans h0 (by decide), Nat.le_trans h1 (by decide), Nat.le_trans h2 (by decide), hi⟩
theorem lset_in (q : Nat) (x : Int) (hx : intOk x) : RecIn (lset q x) := by
  unfold lset
  split
  all_goals exact rin_mk (show laidR.sealed.length ≤ 1000 by decide) (show ∀ x ∈ laidR.sealed, x.length ≤ 1000 by decide) (show laidR.ten.size ≤ 1000 by decide) (show laidR.st.size ≤ 1000 by decide) (show laidR.su.size ≤ 1000 by decide) (by constructor <;> first | exact hx | exact laid_ints.clock | exact laid_ints.kind | exact laid_ints.code | exact laid_ints.id | exact laid_ints.slot | exact laid_ints.uses | exact laid_ints.num)
theorem mset_in (q : Int) (hq : intOk q) (x : Int) (hx : intOk x) : RecIn (mset q x) :=
  rin_mk (Nat.zero_le _) (fun x hx => by cases hx) (show laidR.ten.size ≤ 1000 by decide) (Nat.zero_le _) (Nat.zero_le _) ⟨laid_ints.clock, hq, laid_ints.code, laid_ints.id, laid_ints.code, laid_ints.code, hx⟩
theorem lset_sealed (q : Nat) (x : Int) : (lset q x).sealed = [[0]] := by
  unfold lset
  split <;> rfl
theorem sl_set {w : World} {b o n : Nat} {l : List UInt8} (h : Rd.u8.Sl w (some ⟨b, o, none⟩) n l) (i : Nat) (hi : i < n) (y : UInt8) : Rd.u8.Sl (w.setCell ⟨b, o + i, none⟩ (.int .u8 y.toNat)) (some ⟨b, o, none⟩) n (l.set i y) := by
  have hl := h.1
  refine ⟨by rw [List.length_set]; exact hl, fun _ => ⟨b, o, rfl, fun j hj => ?_⟩⟩
  rw [List.length_set] at hj
  refine ⟨_, rfl, fun z u hu => ?_⟩
  have hz : z = 0 := by
    have := (List.getElem?_eq_some_iff.1 hu).1
    simp at this; exact this
  subst hz
  have hu' : u = .int .u8 ((l.set i y)[j]'(by rw [List.length_set]; exact hj)).toNat := by simpa using hu.symm
  subst hu'
  obtain ⟨b', o', e, x0⟩ := b_get h j (by omega)
  cases e
  show (w.setCell ⟨b, o + i, none⟩ (.int .u8 y.toNat)).cell? ⟨b, o + j * 1 + 0, none⟩ = _
  rw [show o + j * 1 + 0 = o + j by omega]
  by_cases e : i = j
  · subst e
    rw [World.cell?_setCell_same w _ _ x0, List.getElem_set_self]
  · rw [World.cell?_setCell_other w _ _ _ (by intro hh; injection hh with _ h2 _; omega), x0, List.getElem_set_ne e]
theorem xor_one (x : UInt8) : bits .xor .u8 (x.toNat : Int) 1 = ((UInt8.ofNat (x.toNat ^^^ 1)).toNat : Int) := by
  have h := u8_xor_nat x.toNat 1 x.toNat_lt (by decide)
  rw [show ((1 : Nat) : Int) = 1 from rfl] at h
  rw [h, UInt8.toNat_ofNat', Nat.mod_eq_of_lt (Nat.xor_lt_two_pow (n := 8) x.toNat_lt (by decide))]
theorem nil_bytes (w : World) : Rd.u8.Sl w none 0 [] := Rd.Sl.none _ _ none
set_option maxHeartbeats 1000000 in
set_option maxRecDepth 100000 in
theorem laid2_any (w : World) : Calls Tryd.prog 26 #[] w fun e w' => ∃ A A0, e = .returned (.agg #[.string laidR.ten, .int .i64 laidR.clock, .int .i64 laidR.kind, .int .i64 laidR.code, .int .i64 laidR.id, .string laidR.st, .string laidR.su, .int .i64 laidR.slot, .int .i64 laidR.uses, .int .i64 laidR.num, .slice A 1 1]) ∧ w'.ownsRow w.heap.size 29 1 (.slice A 1 1) 1 [.slice A0 1 1] ∧ w'.ownsRow w.heap.size 5 1 (.slice A0 1 1) 1 ([0].flatMap encB) ∧ Ext w w' := by
  go_enter Tryd.func26, Tryd.ntmps26
  go_wp2_with fail
  refine bodyPost_ret (v := .agg #[.string ⟨#[97, 110, 110]⟩, .int .i64 5, .int .i64 1, .int .i64 0, .int .i64 1, .string ⟨#[108, 111, 103]⟩, .string ⟨#[98, 111, 98]⟩, .int .i64 1, .int .i64 0, .int .i64 0, .slice (some ⟨w.heap.size + 1 + 1, 0, none⟩) 1 1]) (by simp [results, Tryd.results26, go_sem]) rfl ?_
  have h1 := World.ownsRow_lit (w := w.alloc (.cells #[.string ⟨#[97, 110, 110]⟩, .int .i64 5, .int .i64 1, .int .i64 0, .int .i64 1, .string ⟨#[108, 111, 103]⟩, .string ⟨#[98, 111, 98]⟩, .int .i64 1, .int .i64 0, .int .i64 0, .slice (some ⟨w.heap.size + 1 + 1, 0, none⟩) 1 1] 25)) (base := w.heap.size) (e := 5) (size := 1) #[.int .u8 0] 1 (by simp) (by decide) rfl
  have h2 := World.ownsRow_lit (w := (w.alloc (.cells #[.string ⟨#[97, 110, 110]⟩, .int .i64 5, .int .i64 1, .int .i64 0, .int .i64 1, .string ⟨#[108, 111, 103]⟩, .string ⟨#[98, 111, 98]⟩, .int .i64 1, .int .i64 0, .int .i64 0, .slice (some ⟨w.heap.size + 1 + 1, 0, none⟩) 1 1] 25)).alloc (.cells #[.int .u8 0] 5)) (base := w.heap.size) (e := 29) (size := 1) #[.slice (some ⟨w.heap.size + 1, 0, none⟩) 1 1] 1 (by simp; omega) (by decide) rfl
  refine ⟨some ⟨w.heap.size + 1 + 1, 0, none⟩, some ⟨w.heap.size + 1, 0, none⟩, rfl, ?_, ?_, (((Ext.refl w).alloc _).alloc _).alloc _⟩
  · simpa using h2
  · have h3 := h1.alloc (.cells #[.slice (some ⟨w.heap.size + 1, 0, none⟩) 1 1] 29)
    simpa [encB] using h3
end Go.Proofs.YtkmjnbfhfjafpaaDoor
