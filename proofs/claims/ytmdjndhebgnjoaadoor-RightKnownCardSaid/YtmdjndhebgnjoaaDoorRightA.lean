/- Rights and prefixes. -/
import Derived.Test.YtmdjndhebgnjoaaDoorName
namespace Go.Proofs.YtmdjndhebgnjoaaDoor
set_option linter.unusedVariables false
set_option linter.unusedSimpArgs false
open Go.RowKit Go.Shelf
def hasR (a b : Int) : Bool := bits .and .i64 a b == b
def pre (s p : ByteArray) : Bool := p.data.toList.isPrefixOf s.data.toList
theorem pre_iff (s p : ByteArray) : pre s p = true ↔ p.data.toList <+: s.data.toList := List.isPrefixOf_iff_prefix
theorem pre_extract (s p : ByteArray) (h : p.size ≤ s.size) : ((s.extract 0 p.size).toList == p.toList) = pre s p := by
  rw [Bool.eq_iff_iff, beq_iff_eq, pre_iff, List.prefix_iff_eq_take, ByteArray.toList_eq, ByteArray.toList_eq]
  have e : (s.extract 0 p.size).data.toList = s.data.toList.take p.data.toList.length := by
    rw [len_is, ByteArray.data_extract, Array.toList_extract, List.extract_eq_take_drop]; simp
  rw [e]
  exact ⟨fun h => h.symm, fun h => h.symm⟩
theorem pre_long (s p : ByteArray) (h : ¬ p.size ≤ s.size) : pre s p = false := by
  rw [Bool.eq_false_iff, ne_eq, pre_iff]
  intro hp
  have := hp.length_le
  rw [len_is, len_is] at this
  omega
theorem pre_all (s p : ByteArray) (h : p.size ≤ s.size) (ha : ∀ j (hj : j < p.size), s[j]'(by omega) = p[j]) : pre s p = true := by
  rw [pre_iff, List.prefix_iff_eq_take]
  apply List.ext_getElem
  · rw [List.length_take, len_is, len_is]; omega
  · intro j h1 h2
    rw [len_is] at h1
    rw [List.getElem_take, Array.getElem_toList, Array.getElem_toList]
    exact (ha j h1).symm
theorem pre_not (s p : ByteArray) (h : p.size ≤ s.size) (j : Nat) (hj : j < p.size) (hne : ¬ s[j]'(by omega) = p[j]) : pre s p = false := by
  rw [Bool.eq_false_iff, ne_eq, pre_iff, List.prefix_iff_eq_take]
  intro he
  apply hne
  have h2 : s.data.toList[j]'(by rw [len_is]; omega) = p.data.toList[j]'(by rw [len_is]; omega) := by
    have := congrArg (fun l : List UInt8 => l[j]?) he
    rw [List.getElem?_take_of_lt (by rw [len_is]; omega), List.getElem?_eq_getElem (by rw [len_is]; omega), List.getElem?_eq_getElem (by rw [len_is]; omega)] at this
    exact (Option.some.inj this).symm
  exact h2
theorem has_any (a b : Int) (w : World) : Calls Tryd.prog 32 #[.int .i64 a, .int .i64 b] w fun e w' => e = .returned (.bool (hasR a b)) ∧ w = w' := by
  go_enter Tryd.func32, Tryd.ntmps32
  go_wp2
  go_ret
  exact ⟨rfl, rfl⟩
theorem has_val (a b : Int) (v : Bool) (h : hasR a b = v) (w : World) : Calls Tryd.prog 32 #[.int .i64 a, .int .i64 b] w fun e w' => e = .returned (.bool v) ∧ w' = w :=
  (has_any a b w).mono fun _ _ k => ⟨by rw [k.1, h], k.2.symm⟩
/-- The reference asks by 'or'. -/
theorem or_is_and (a b : Int) (ha : (Lit.int .i64 a).wf = true) (hb : (Lit.int .i64 b).wf = true) : (bits .or .i64 a b == a) = hasR a b := by
  have wa : -9223372036854775808 ≤ a ∧ a ≤ 9223372036854775807 := by simpa [Lit.wf, IntKind.min, IntKind.max, IntKind.signed, IntKind.bits] using ha
  have wb : -9223372036854775808 ≤ b ∧ b ≤ 9223372036854775807 := by simpa [Lit.wf, IntKind.min, IntKind.max, IntKind.signed, IntKind.bits] using hb
  have key : ∀ (x : Int) (X : BitVec 64), -9223372036854775808 ≤ x → x ≤ 9223372036854775807 → (IntKind.i64.wrap (X.toNat : Int) = x ↔ X = BitVec.ofInt 64 x) := by
    intro x X h1 h2
    have e : IntKind.i64.wrap (X.toNat : Int) = X.toInt := by
      rw [IntKind.wrap_i64, BitVec.toInt_eq_toNat_cond]
      have := X.isLt
      split <;> omega
    rw [e]
    constructor
    · intro h; rw [← h, BitVec.ofInt_toInt]
    · intro h; rw [h, BitVec.toInt_ofInt]
      simp [Int.bmod]; omega
  unfold hasR
  rw [Bool.eq_iff_iff, beq_iff_eq, beq_iff_eq]
  show IntKind.i64.wrap ((BitVec.ofInt 64 a ||| BitVec.ofInt 64 b).toNat : Int) = a ↔ IntKind.i64.wrap ((BitVec.ofInt 64 a &&& BitVec.ofInt 64 b).toNat : Int) = b
  rw [key a _ wa.1 wa.2, key b _ wb.1 wb.2]
  generalize BitVec.ofInt 64 a = A
  generalize BitVec.ofInt 64 b = B
  constructor
  · intro h
    apply BitVec.eq_of_getLsbD_eq
    intro i hi
    have := congrArg (fun v : BitVec 64 => v.getLsbD i) h
    simp only [BitVec.getLsbD_or, BitVec.getLsbD_and] at *
    cases hA : A.getLsbD i <;> cases hB : B.getLsbD i <;> simp_all
  · intro h
    apply BitVec.eq_of_getLsbD_eq
    intro i hi
    have := congrArg (fun v : BitVec 64 => v.getLsbD i) h
    simp only [BitVec.getLsbD_or, BitVec.getLsbD_and] at *
    cases hA : A.getLsbD i <;> cases hB : B.getLsbD i <;> simp_all
theorem refhas_any (a b : Int) (w : World) (ha : (Lit.int .i64 a).wf = true) (hb : (Lit.int .i64 b).wf = true) : Calls Tryd.prog 40 #[.int .i64 a, .int .i64 b] w fun e w' => e = .returned (.bool (hasR a b)) ∧ w = w' := by
  rw [← or_is_and a b ha hb]
  clear ha hb
  go_enter Tryd.func40, Tryd.ntmps40
  go_wp2
  go_ret
  exact ⟨rfl, rfl⟩
theorem prefix0_any (s p : ByteArray) (w : World) : Calls Tryd.prog 53 #[.string s, .string p] w fun e w' => e = .returned (.bool (pre s p)) ∧ w = w' := by
  by_cases h : p.size ≤ s.size
  · rw [← pre_extract s p h]
    go_enter Tryd.func53, Tryd.ntmps53
    go_wp2
    go_ret
    exact ⟨rfl, rfl⟩
  · rw [pre_long s p h]
    go_enter Tryd.func53, Tryd.ntmps53
    go_wp2
    go_ret
    exact ⟨rfl, rfl⟩
theorem prefix_any (s p : ByteArray) (w : World) : Calls Tryd.prog 42 #[.string s, .string p] w fun e w' => e = .returned (.bool (pre s p)) ∧ Ext w w' := by
  go_enter Tryd.func42, Tryd.ntmps42
  go_wp2_with (go_at_call 53; refine (prefix0_any _ _ _).mono ?_; rintro e w' ⟨rfl, rfl⟩)
  go_ret
  exact ⟨rfl, Ext.refl _⟩
set_option maxHeartbeats 1000000 in
set_option maxRecDepth 100000 in
theorem begins_any (s p : ByteArray) (w : World) (hp : p.size ≤ 9223372036854775807) : Calls Tryd.prog 41 #[.string s, .string p] w fun e w' => e = .returned (.bool (pre s p)) ∧ Ext w w' := by
  by_cases h : p.size ≤ s.size
  · go_enter Tryd.func41, Tryd.ntmps41
    go_wp2
    go_loopw [5] (fun i wr => ∃ k : Nat, k ≤ p.size ∧ i = .int .i64 k ∧ (∀ j (hj : j < k) (hp : j < p.size) (hs : j < s.size), s[j] = p[j]) ∧ Ext w wr) (fun i _ => p.size - (intOf i).toNat)
    case atStart => exact ⟨0, by omega, rfl, fun j hj => absurd hj (by omega), Ext.refl _⟩
    case round =>
      obtain ⟨k, hk, rfl, hall, hwr⟩ := hrel
      have HA := Lib.hid hall
      clear hall
      by_cases hlt : k < p.size
      · have hls : k < s.size := by omega
        have hz : (0 : Int) ≤ k := by omega
        have hi1 : (k : Int) < s.size := by omega
        have hi2 : (k : Int) < p.size := by omega
        by_cases he : s[k] = p[k]
        · have H := Lib.hid he
          have hb : ((s[k].toNat : Int) != (p[k].toNat : Int)) = false := by simp [he]
          clear he
          go_wp2_with fail
          go_quiet (fail)
          go_wp2
          go_roundw
          case rel => exact ⟨k + 1, by omega, by go_num, fun j hj h1 h2 => by
            rcases Nat.lt_or_ge j k with h3 | h3
            · exact HA.out j h3 h1 h2
            · obtain rfl : j = k := by omega
              exact H.out, hwr.drewN _⟩
          case measure => simp [intOf]; omega
        · have H := Lib.hid he
          have hb : ((s[k].toNat : Int) != (p[k].toNat : Int)) = true := by
            simp only [bne_iff_ne, ne_eq]
            intro h3
            apply he
            exact UInt8.toNat_inj.1 (by omega)
          clear he
          go_wp2_with fail
          go_quiet (fail)
          go_wp2
          go_ret
          exact ⟨ret_bool (pre_not s p h k hlt H.out).symm, hwr.drewN _⟩
      · go_wp2
        go_ret
        exact ⟨ret_bool (pre_all s p h (fun j hj => HA.out j (by omega) hj (by omega))).symm, hwr⟩
  · rw [pre_long s p h]
    go_enter Tryd.func41, Tryd.ntmps41
    go_wp2
    go_ret
    exact ⟨rfl, Ext.refl _⟩
end Go.Proofs.YtmdjndhebgnjoaaDoor
