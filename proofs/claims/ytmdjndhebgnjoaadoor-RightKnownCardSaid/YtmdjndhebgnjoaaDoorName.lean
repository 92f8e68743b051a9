/- right.Name and its reference: what they compute. -/
import Derived.Test.YtmdjndhebgnjoaaDoorBase
import Derived.Test.YtmdjndhebgnjoaaDoorShelf
import Derived.Test.YtmdjndhebgnjoaaDoorNamePure
namespace Go.Proofs.YtmdjndhebgnjoaaDoor
set_option linter.unusedVariables false
set_option linter.unusedSimpArgs false
open Go.RowKit Go.Shelf
theorem trim_any (s : ByteArray) (w : World) (hs : s.size ≤ 9223372036854775807) : Calls Tryd.prog 37 #[.string s, .string ⟨#[97, 98, 99, 100, 101, 102, 103, 104, 105, 106, 107, 108, 109, 110, 111, 112, 113, 114, 115, 116, 117, 118, 119, 120, 121, 122, 48, 49, 50, 51, 52, 53, 54, 55, 56, 57, 45, 46]⟩] w fun e w' => ∃ t : ByteArray, e = .returned (.string t) ∧ t.toList.isEmpty = s.data.toList.all isSign ∧ Ext w w' :=
  (Any.strings_Trim_laid Tryd.lays160 (by kernel_rfl) s ⟨#[97, 98, 99, 100, 101, 102, 103, 104, 105, 106, 107, 108, 109, 110, 111, 112, 113, 114, 115, 116, 117, 118, 119, 120, 121, 122, 48, 49, 50, 51, 52, 53, 54, 55, 56, 57, 45, 46]⟩ w hs (by decide) (ascii_of_all (by decide))).mono fun e w' h => ⟨_, h.1, by
    rw [ByteArray.toList_eq, ← trim_nil]; rfl, h.2⟩
theorem indexByte_any (c : Int) (w : World) : Calls Tryd.prog 36 #[.string ⟨#[97, 98, 99, 100, 101, 102, 103, 104, 105, 106, 107, 108, 109, 110, 111, 112, 113, 114, 115, 116, 117, 118, 119, 120, 121, 122]⟩, .int .u8 c] w fun e w' => ∃ i : Int, e = .returned (.int .i64 i) ∧ decide (0 ≤ i) = isLetter c.toNat.toUInt8 ∧ w = w' :=
  (Any.strings_IndexByte Tryd.lays137 _ c w).mono fun _ _ h => ⟨_, h.1, index_letters _, h.2.symm⟩
theorem head_is (s : ByteArray) (h : 0 < s.size) : (s[0].toNat : Int).toNat.toUInt8 = s.data.toList.headD 0 := by
  have h' : 0 < s.data.size := h
  have e : s.data.toList.headD 0 = s.data[0] := by
    obtain ⟨⟨l⟩⟩ := s
    cases l with
    | nil => simp at h'
    | cons a r => rfl
  rw [e]
  show UInt8.ofNat _ = _
  rw [Int.toNat_natCast]
  exact UInt8.ofNat_toNat
theorem len_is (s : ByteArray) : s.data.toList.length = s.size := by rw [Array.length_toList]; rfl
set_option maxHeartbeats 1000000 in
set_option maxRecDepth 100000 in
theorem name_any (s : ByteArray) (w : World) (hs : s.size ≤ 9223372036854775807) : Calls Tryd.prog 14 #[.string s] w fun e w' => e = .returned (.bool (nm s.data.toList)) ∧ Ext w w' := by
  by_cases h1 : 1 ≤ s.size
  · by_cases h2 : s.size ≤ 24
    · have hh := head_is s h1
      have hn : nm s.data.toList = (isLetter (s.data.toList.headD 0) && s.data.toList.all isSign) := by
        unfold nm; rw [len_is]; simp [h1, h2]
      by_cases h3 : isLetter (s.data.toList.headD 0) = true
      · have hn' : nm s.data.toList = s.data.toList.all isSign := by rw [hn, h3]; rfl
        rw [hn']
        rw [← hh] at h3
        have H3 := Lib.hid h3
        clear hn hn' hh h3
        go_enter Tryd.func14, Tryd.ntmps14
        go_wp2_with (first | (go_at_call 36; refine (indexByte_any _ _).mono ?_; rintro e w' ⟨i, rfl, hi, rfl⟩; rw [H3.out] at hi; have hi' := of_decide_eq_true hi; clear hi) | (go_at_call 37; refine (trim_any _ _ hs).mono ?_; rintro e w' ⟨t, rfl, ht, hb⟩))
        go_ret
        exact ⟨by simp, hb⟩
      · have hn' : nm s.data.toList = false := by rw [hn, eq_false_of_ne_true h3]; rfl
        rw [hn']
        rw [← hh] at h3
        have H3 := Lib.hid h3
        clear hn hn' hh h3
        go_enter Tryd.func14, Tryd.ntmps14
        go_wp2_with (first | (go_at_call 36; refine (indexByte_any _ _).mono ?_; rintro e w' ⟨i, rfl, hi, rfl⟩; have hi' : ¬ 0 ≤ i := fun h => H3.out (hi ▸ decide_eq_true h); clear hi) | (go_at_call 37; refine (trim_any _ _ hs).mono ?_; rintro e w' ⟨t, rfl, ht, hb⟩))
        go_ret
        exact ⟨rfl, Ext.refl _⟩
    · have hn' : nm s.data.toList = false := by unfold nm; rw [len_is]; simp [h2]
      rw [hn']
      go_enter Tryd.func14, Tryd.ntmps14
      go_wp2
      go_ret
      exact ⟨rfl, Ext.refl _⟩
  · have hn' : nm s.data.toList = false := by unfold nm; rw [len_is]; simp [h1]
    rw [hn']
    go_enter Tryd.func14, Tryd.ntmps14
    go_wp2
    go_ret
    exact ⟨rfl, Ext.refl _⟩
/-- The reference's loop: byte by byte. -/
theorem all_take (s : ByteArray) (k : Nat) (h : k < s.size) : (s.data.toList.take (k + 1)).all isSign = ((s.data.toList.take k).all isSign && isSign s[k]) := by
  have h' : k < s.data.toList.length := by rw [len_is]; exact h
  rw [List.take_succ_eq_append_getElem h', List.all_append]
  simp only [List.all_cons, List.all_nil, Bool.and_true, Array.getElem_toList]
  rfl
def letterI (c : Int) : Bool := decide (97 ≤ c ∧ c ≤ 122)
theorem letterI_nat (b : UInt8) : letterI (b.toNat : Int) = isLetter b := by
  unfold letterI isLetter; rw [Bool.eq_iff_iff]; simp; omega
theorem isSign_no (b : UInt8) (h : letterI (b.toNat : Int) = false) (h1 : (b.toNat : Int) < 48 ∨ 57 < (b.toNat : Int)) (h2 : ¬ (b.toNat : Int) = 45) (h3 : ¬ (b.toNat : Int) = 46) : isSign b = false := by
  unfold isSign; rw [← letterI_nat, h]; simp; omega
theorem isSign_letter (b : UInt8) (h : letterI (b.toNat : Int) = true) : isSign b = true := by
  unfold isSign; rw [← letterI_nat, h]; rfl
theorem isSign_digit (b : UInt8) (h1 : 48 ≤ (b.toNat : Int)) (h2 : (b.toNat : Int) ≤ 57) : isSign b = true := by
  unfold isSign; simp; omega
theorem isSign_other (b : UInt8) (h1 : (b.toNat : Int) = 45 ∨ (b.toNat : Int) = 46) : isSign b = true := by
  unfold isSign; simp; omega
theorem letter_any (c : Int) (w : World) : Calls Tryd.prog 38 #[.int .u8 c] w fun e w' => e = .returned (.bool (letterI c)) ∧ w = w' := by
  go_enter Tryd.func38, Tryd.ntmps38
  go_wp2
  all_goals
    go_ret
    refine ⟨ret_bool ?_, rfl⟩
    rw [Bool.eq_iff_iff]
    simp [letterI]
    omega
theorem nm_no (s : ByteArray) (k : Nat) (hk : k < s.size) (h : isSign s[k] = false) : nm s.data.toList = false := by
  unfold nm
  have : s.data.toList.all isSign = false := by
    rw [List.all_eq_false]
    exact ⟨s[k], by rw [show s[k] = s.data[k] from rfl]; simp, by rw [h]; simp⟩
  rw [this]; simp
theorem nm_head (s : ByteArray) (h : 0 < s.size) (hl : letterI (s[0].toNat : Int) = false) : nm s.data.toList = false := by
  unfold nm
  have := head_is s h
  rw [Int.toNat_natCast] at this
  rw [letterI_nat] at hl
  have h2 : s[0].toNat.toUInt8 = s[0] := UInt8.ofNat_toNat
  rw [← this, h2, hl]; simp
theorem nm_yes (s : ByteArray) (h : 0 < s.size) (h2 : s.size ≤ 24) (hl : letterI (s[0].toNat : Int) = true) (ha : (s.data.toList.take s.size).all isSign = true) : nm s.data.toList = true := by
  unfold nm
  have := head_is s h
  rw [Int.toNat_natCast] at this
  rw [letterI_nat] at hl
  have h3 : s[0].toNat.toUInt8 = s[0] := UInt8.ofNat_toNat
  rw [List.take_of_length_le (by rw [len_is]; omega)] at ha
  rw [← this, h3, hl, ha, len_is]; simp; omega
theorem nm_size (s : ByteArray) (h : ¬ (1 ≤ s.size ∧ s.size ≤ 24)) : nm s.data.toList = false := by
  unfold nm; rw [len_is]; simp [h]
set_option maxHeartbeats 1000000 in
set_option maxRecDepth 100000 in
theorem refname_any (s : ByteArray) (w : World) : Calls Tryd.prog 16 #[.string s] w fun e w' => e = .returned (.bool (nm s.data.toList)) ∧ w = w' := by
  by_cases hsz : 1 ≤ s.size ∧ s.size ≤ 24
  · obtain ⟨h1, h2⟩ := hsz
    have h1' : 0 < s.size := h1
    by_cases hl : letterI (s[0].toNat : Int) = true
    · have HL := Lib.hid hl
      go_enter Tryd.func16, Tryd.ntmps16
      go_wp2_with (go_at_call 38; refine (letter_any _ _).mono ?_; rw [HL.out]; rintro e w' ⟨rfl, rfl⟩)
      clear hl
      go_loop [3] (fun i => ∃ k : Nat, k ≤ s.size ∧ i = .int .i64 k ∧ (s.data.toList.take k).all isSign = true) (fun i => s.size - (intOf i).toNat)
      case atStart => exact ⟨0, by omega, rfl, by simp⟩
      case round =>
        obtain ⟨k, hk, rfl, hall⟩ := hrel
        have HA := Lib.hid hall
        clear hall
        by_cases hlt : k < s.size
        · have hb := s[k].toNat_lt
          have hts := Lib.hid (all_take s k hlt)
          by_cases hlk : letterI (s[k].toNat : Int) = true
          · have HK := Lib.hid hlk
            clear hlk
            go_wp2_with (go_at_call 38; refine (letter_any _ _).mono ?_; rw [HK.out]; rintro e w' ⟨rfl, rfl⟩)
            go_round
            case rel => exact ⟨k + 1, by omega, by go_num, by rw [hts.out, HA.out, isSign_letter _ HK.out]; rfl⟩
            case measure => simp [intOf]; omega
          · have HK := Lib.hid (eq_false_of_ne_true hlk)
            clear hlk
            by_cases hd : 48 ≤ (s[k].toNat : Int) ∧ (s[k].toNat : Int) ≤ 57
            · have hS := Lib.hid (isSign_digit s[k] hd.1 hd.2)
              obtain ⟨g1, g2⟩ := hd
              go_wp2_with (go_at_call 38; refine (letter_any _ _).mono ?_; rw [HK.out]; rintro e w' ⟨rfl, rfl⟩)
              go_round
              case rel => exact ⟨k + 1, by omega, by go_num, by rw [hts.out, HA.out, hS.out]; rfl⟩
              case measure => simp [intOf]; omega
            · by_cases h45 : (s[k].toNat : Int) = 45
              · have hS := Lib.hid (isSign_other s[k] (.inl h45))
                have g1 : ((s[k].toNat : Int) != 45) = false := by simp [h45]
                have g2 : (s[k].toNat : Int) < 48 := by omega
                clear h45 hd
                go_wp2_with (go_at_call 38; refine (letter_any _ _).mono ?_; rw [HK.out]; rintro e w' ⟨rfl, rfl⟩)
                go_round
                case rel => exact ⟨k + 1, by omega, by go_num, by rw [hts.out, HA.out, hS.out]; rfl⟩
                case measure => simp [intOf]; omega
              · by_cases h46 : (s[k].toNat : Int) = 46
                · have hS := Lib.hid (isSign_other s[k] (.inr h46))
                  have g1 : ((s[k].toNat : Int) != 46) = false := by simp [h46]
                  have g0 : ((s[k].toNat : Int) != 45) = true := by simp [h46]
                  have g2 : (s[k].toNat : Int) < 48 := by omega
                  clear h45 h46 hd
                  go_wp2_with (go_at_call 38; refine (letter_any _ _).mono ?_; rw [HK.out]; rintro e w' ⟨rfl, rfl⟩)
                  go_round
                  case rel => exact ⟨k + 1, by omega, by go_num, by rw [hts.out, HA.out, hS.out]; rfl⟩
                  case measure => simp [intOf]; omega
                · have hS := Lib.hid (isSign_no s[k] HK.out (by omega) h45 h46)
                  have g0 : ((s[k].toNat : Int) != 45) = true := by simp [h45]
                  have g1 : ((s[k].toNat : Int) != 46) = true := by simp [h46]
                  by_cases h48 : (s[k].toNat : Int) < 48
                  · clear h45 h46 hd
                    go_wp2_with (go_at_call 38; refine (letter_any _ _).mono ?_; rw [HK.out]; rintro e w' ⟨rfl, rfl⟩)
                    go_ret
                    exact ⟨ret_bool (nm_no s k hlt hS.out).symm, rfl⟩
                  · have h57 : 57 < (s[k].toNat : Int) := by omega
                    have h48' : 48 ≤ (s[k].toNat : Int) := by omega
                    clear h45 h46 hd h48
                    go_wp2_with (go_at_call 38; refine (letter_any _ _).mono ?_; rw [HK.out]; rintro e w' ⟨rfl, rfl⟩)
                    go_ret
                    exact ⟨ret_bool (nm_no s k hlt hS.out).symm, rfl⟩
        · go_wp2
          go_ret
          obtain rfl : k = s.size := by omega
          exact ⟨ret_bool (nm_yes s h1' h2 HL.out HA.out).symm, rfl⟩
    · have HL := Lib.hid (eq_false_of_ne_true hl)
      clear hl
      go_enter Tryd.func16, Tryd.ntmps16
      go_wp2_with (go_at_call 38; refine (letter_any _ _).mono ?_; rw [HL.out]; rintro e w' ⟨rfl, rfl⟩)
      go_ret
      exact ⟨ret_bool (nm_head s h1' HL.out).symm, rfl⟩
  · rw [nm_size s hsz]
    go_enter Tryd.func16, Tryd.ntmps16
    go_wp2_with fail
    all_goals (first | (exfalso; omega) | (go_ret; exact ⟨rfl, rfl⟩))
end Go.Proofs.YtmdjndhebgnjoaaDoor
