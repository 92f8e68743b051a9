/- Names, without the program: letters, signs, what trimming a text leaves. (and what follows) -/
import Derived.Lib.SlTrimSet
import Derived.Lib.IndexAny
import Derived.Test.YtjcpgjnogcmalaaDoorT1
import Derived.Test.YtjcpgjnogcmalaaDoorShelf
import Derived.Test.YtjcpgjnogcmalaaDoorT2
/-! Names, without the program: letters, signs, what trimming a text leaves. -/
namespace Go.Proofs.YtjcpgjnogcmalaaDoor
set_option linter.unusedVariables false
set_option linter.unusedSimpArgs false
def letters : List UInt8 := [97, 98, 99, 100, 101, 102, 103, 104, 105, 106, 107, 108, 109, 110, 111, 112, 113, 114, 115, 116, 117, 118, 119, 120, 121, 122]
def signs : List UInt8 := [97, 98, 99, 100, 101, 102, 103, 104, 105, 106, 107, 108, 109, 110, 111, 112, 113, 114, 115, 116, 117, 118, 119, 120, 121, 122, 48, 49, 50, 51, 52, 53, 54, 55, 56, 57, 45, 46]
def isLetter (b : UInt8) : Bool := decide (97 ≤ b.toNat ∧ b.toNat ≤ 122)
def isSign (b : UInt8) : Bool := isLetter b || decide (48 ≤ b.toNat ∧ b.toNat ≤ 57) || decide (b.toNat = 45) || decide (b.toNat = 46)
/-- A name. -/
def nm (l : List UInt8) : Bool := decide (1 ≤ l.length ∧ l.length ≤ 24) && isLetter (l.headD 0) && l.all isSign
theorem letters_fin : ∀ n : Fin 256, letters.contains (UInt8.ofNat n.1) = isLetter (UInt8.ofNat n.1) := by decide +kernel
theorem signs_fin : ∀ n : Fin 256, signs.contains (UInt8.ofNat n.1) = isSign (UInt8.ofNat n.1) := by decide +kernel
theorem letters_is (b : UInt8) : letters.contains b = isLetter b := by
  have h := letters_fin ⟨b.toNat, b.toNat_lt⟩
  rwa [UInt8.ofNat_toNat] at h
theorem signs_is (b : UInt8) : signs.contains b = isSign b := by
  have h := signs_fin ⟨b.toNat, b.toNat_lt⟩
  rwa [UInt8.ofNat_toNat] at h
theorem index_letters (b : UInt8) : decide (0 ≤ Lib.indexByte letters b) = isLetter b := by
  rw [← Lib.contains_iff_indexByte, letters_is]
theorem dropWhile_nil {α : Type} (p : α → Bool) : ∀ l : List α, l.dropWhile p = [] ↔ ∀ x ∈ l, p x = true
  | [] => by simp
  | a :: l => by
    rw [List.dropWhile_cons]
    by_cases h : p a = true
    · rw [if_pos h, dropWhile_nil p l]; simp [h]
    · rw [if_neg h]; simp [h]
theorem dropWhile_head {α : Type} (p : α → Bool) : ∀ (l : List α) (a : α) (r : List α), l.dropWhile p = a :: r → p a = false
  | [], a, r, h => by simp at h
  | b :: l, a, r, h => by
    rw [List.dropWhile_cons] at h
    by_cases hb : p b = true
    · rw [if_pos hb] at h; exact dropWhile_head p l a r h
    · rw [if_neg hb] at h
      injection h with h1 h2
      rw [← h1]; simpa using hb
theorem trim_nil (l : List UInt8) : (Lib.trimS l signs).isEmpty = l.all isSign := by
  rw [Bool.eq_iff_iff, List.isEmpty_iff, List.all_eq_true]
  have hs : (fun b : UInt8 => signs.contains b) = isSign := funext signs_is
  unfold Lib.trimS Lib.trimLeftS Lib.trimRightS
  rw [hs]
  constructor
  · intro h
    rw [dropWhile_nil] at h
    cases hd : l.reverse.dropWhile isSign with
    | nil =>
      rw [dropWhile_nil] at hd
      exact fun x hx => hd x (by simpa using hx)
    | cons a r =>
      have h1 := dropWhile_head _ _ _ _ hd
      rw [hd] at h
      have h2 := h a (by simp)
      rw [h1] at h2; cases h2
  · intro h
    have : l.reverse.dropWhile isSign = [] := (dropWhile_nil _ _).2 (fun x hx => h x (by simpa using hx))
    rw [this]; rfl
end Go.Proofs.YtjcpgjnogcmalaaDoor

/-! right.Name and its reference: what they compute. -/
namespace Go.Proofs.YtjcpgjnogcmalaaDoor
set_option linter.unusedVariables false
set_option linter.unusedSimpArgs false
open Go.RowKit Go.Shelf
theorem trim_any (s : ByteArray) (w : World) (hs : s.size ≤ 9223372036854775807) : Calls Tryd.prog 54 #[.string s, .string ⟨#[97, 98, 99, 100, 101, 102, 103, 104, 105, 106, 107, 108, 109, 110, 111, 112, 113, 114, 115, 116, 117, 118, 119, 120, 121, 122, 48, 49, 50, 51, 52, 53, 54, 55, 56, 57, 45, 46]⟩] w fun e w' => ∃ t : ByteArray, e = .returned (.string t) ∧ t.toList.isEmpty = s.data.toList.all isSign ∧ Ext w w' :=
  (Any.strings_Trim_laid Tryd.lays160 (by kernel_rfl) s ⟨#[97, 98, 99, 100, 101, 102, 103, 104, 105, 106, 107, 108, 109, 110, 111, 112, 113, 114, 115, 116, 117, 118, 119, 120, 121, 122, 48, 49, 50, 51, 52, 53, 54, 55, 56, 57, 45, 46]⟩ w hs (by decide) (ascii_of_all (by decide))).mono fun e w' h => ⟨_, h.1, by
    rw [ByteArray.toList_eq, ← trim_nil]; rfl, h.2⟩
theorem indexByte_any (c : Int) (w : World) : Calls Tryd.prog 53 #[.string ⟨#[97, 98, 99, 100, 101, 102, 103, 104, 105, 106, 107, 108, 109, 110, 111, 112, 113, 114, 115, 116, 117, 118, 119, 120, 121, 122]⟩, .int .u8 c] w fun e w' => ∃ i : Int, e = .returned (.int .i64 i) ∧ decide (0 ≤ i) = isLetter c.toNat.toUInt8 ∧ w = w' :=
  (Any.strings_IndexByte Tryd.lays137 _ c w).mono fun _ _ h => ⟨_, h.1, index_letters _, h.2.symm⟩
theorem head_is (s : ByteArray) (h : 0 < s.size) : (s[0].toNat : Int).toNat.toUInt8 = s.data.toList.headD 0 := by
  have h' : 0 < s.data.size := h
  have e : s.data.toList.headD 0 = s.data[0] := by
    obtain ⟨⟨l⟩⟩ := s
    cases l with
    | nil => simp at h'
    | cons a r => rfl
  rw [e]
  show UInt8.ofNat _ = _
  rw [Int.toNat_natCast]
  exact UInt8.ofNat_toNat
theorem len_is (s : ByteArray) : s.data.toList.length = s.size := by rw [Array.length_toList]; rfl
set_option maxHeartbeats 1000000 in
set_option maxRecDepth 100000 in
theorem name_any (s : ByteArray) (w : World) (hs : s.size ≤ 9223372036854775807) : Calls Tryd.prog 20 #[.string s] w fun e w' => e = .returned (.bool (nm s.data.toList)) ∧ Ext w w' := by
  by_cases h1 : 1 ≤ s.size
  · by_cases h2 : s.size ≤ 24
    · have hh := head_is s h1
      have hn : nm s.data.toList = (isLetter (s.data.toList.headD 0) && s.data.toList.all isSign) := by
        unfold nm; rw [len_is]; simp [h1, h2]
      by_cases h3 : isLetter (s.data.toList.headD 0) = true
      · have hn' : nm s.data.toList = s.data.toList.all isSign := by rw [hn, h3]; rfl
        rw [hn']
        rw [← hh] at h3
        have H3 := Lib.hid h3
        clear hn hn' hh h3
        go_enter Tryd.func20, Tryd.ntmps20
        go_wp2_with (first | (go_at_call 53; refine (indexByte_any _ _).mono ?_; rintro e w' ⟨i, rfl, hi, rfl⟩; rw [H3.out] at hi; have hi' := of_decide_eq_true hi; clear hi) | (go_at_call 54; refine (trim_any _ _ hs).mono ?_; rintro e w' ⟨t, rfl, ht, hb⟩))
        go_ret
        exact ⟨by simp, hb⟩
      · have hn' : nm s.data.toList = false := by rw [hn, eq_false_of_ne_true h3]; rfl
        rw [hn']
        rw [← hh] at h3
        have H3 := Lib.hid h3
        clear hn hn' hh h3
        go_enter Tryd.func20, Tryd.ntmps20
        go_wp2_with (first | (go_at_call 53; refine (indexByte_any _ _).mono ?_; rintro e w' ⟨i, rfl, hi, rfl⟩; have hi' : ¬ 0 ≤ i := fun h => H3.out (hi ▸ decide_eq_true h); clear hi) | (go_at_call 54; refine (trim_any _ _ hs).mono ?_; rintro e w' ⟨t, rfl, ht, hb⟩))
        go_ret
        exact ⟨rfl, Ext.refl _⟩
    · have hn' : nm s.data.toList = false := by unfold nm; rw [len_is]; simp [h2]
      rw [hn']
      go_enter Tryd.func20, Tryd.ntmps20
      go_wp2
      go_ret
      exact ⟨rfl, Ext.refl _⟩
  · have hn' : nm s.data.toList = false := by unfold nm; rw [len_is]; simp [h1]
    rw [hn']
    go_enter Tryd.func20, Tryd.ntmps20
    go_wp2
    go_ret
    exact ⟨rfl, Ext.refl _⟩
/-- The reference's loop: byte by byte. -/
theorem all_take (s : ByteArray) (k : Nat) (h : k < s.size) : (s.data.toList.take (k + 1)).all isSign = ((s.data.toList.take k).all isSign && isSign s[k]) := by
  have h' : k < s.data.toList.length := by rw [len_is]; exact h
  rw [List.take_succ_eq_append_getElem h', List.all_append]
  simp only [List.all_cons, List.all_nil, Bool.and_true, Array.getElem_toList]
  rfl
def letterI (c : Int) : Bool := decide (97 ≤ c ∧ c ≤ 122)
theorem letterI_nat (b : UInt8) : letterI (b.toNat : Int) = isLetter b := by
  unfold letterI isLetter; rw [Bool.eq_iff_iff]; simp; omega
theorem isSign_no (b : UInt8) (h : letterI (b.toNat : Int) = false) (h1 : (b.toNat : Int) < 48 ∨ 57 < (b.toNat : Int)) (h2 : ¬ (b.toNat : Int) = 45) (h3 : ¬ (b.toNat : Int) = 46) : isSign b = false := by
  unfold isSign; rw [← letterI_nat, h]; simp; omega
theorem isSign_letter (b : UInt8) (h : letterI (b.toNat : Int) = true) : isSign b = true := by
  unfold isSign; rw [← letterI_nat, h]; rfl
theorem isSign_digit (b : UInt8) (h1 : 48 ≤ (b.toNat : Int)) (h2 : (b.toNat : Int) ≤ 57) : isSign b = true := by
  unfold isSign; simp; omega
theorem isSign_other (b : UInt8) (h1 : (b.toNat : Int) = 45 ∨ (b.toNat : Int) = 46) : isSign b = true := by
  unfold isSign; simp; omega
theorem letter_any (c : Int) (w : World) : Calls Tryd.prog 97 #[.int .u8 c] w fun e w' => e = .returned (.bool (letterI c)) ∧ w = w' := by
  go_enter Tryd.func97, Tryd.ntmps97
  go_wp2
  all_goals
    go_ret
    refine ⟨ret_bool ?_, rfl⟩
    rw [Bool.eq_iff_iff]
    simp [letterI]
    omega
theorem nm_no (s : ByteArray) (k : Nat) (hk : k < s.size) (h : isSign s[k] = false) : nm s.data.toList = false := by
  unfold nm
  have : s.data.toList.all isSign = false := by
    rw [List.all_eq_false]
    exact ⟨s[k], by rw [show s[k] = s.data[k] from rfl]; simp, by rw [h]; simp⟩
  rw [this]; simp
theorem nm_head (s : ByteArray) (h : 0 < s.size) (hl : letterI (s[0].toNat : Int) = false) : nm s.data.toList = false := by
  unfold nm
  have := head_is s h
  rw [Int.toNat_natCast] at this
  rw [letterI_nat] at hl
  have h2 : s[0].toNat.toUInt8 = s[0] := UInt8.ofNat_toNat
  rw [← this, h2, hl]; simp
theorem nm_yes (s : ByteArray) (h : 0 < s.size) (h2 : s.size ≤ 24) (hl : letterI (s[0].toNat : Int) = true) (ha : (s.data.toList.take s.size).all isSign = true) : nm s.data.toList = true := by
  unfold nm
  have := head_is s h
  rw [Int.toNat_natCast] at this
  rw [letterI_nat] at hl
  have h3 : s[0].toNat.toUInt8 = s[0] := UInt8.ofNat_toNat
  rw [List.take_of_length_le (by rw [len_is]; omega)] at ha
  rw [← this, h3, hl, ha, len_is]; simp; omega
theorem nm_size (s : ByteArray) (h : ¬ (1 ≤ s.size ∧ s.size ≤ 24)) : nm s.data.toList = false := by
  unfold nm; rw [len_is]; simp [h]
set_option maxHeartbeats 1000000 in
set_option maxRecDepth 100000 in
theorem refname_any (s : ByteArray) (w : World) : Calls Tryd.prog 73 #[.string s] w fun e w' => e = .returned (.bool (nm s.data.toList)) ∧ w = w' := by
  by_cases hsz : 1 ≤ s.size ∧ s.size ≤ 24
  · obtain ⟨h1, h2⟩ := hsz
    have h1' : 0 < s.size := h1
    by_cases hl : letterI (s[0].toNat : Int) = true
    · have HL := Lib.hid hl
      go_enter Tryd.func73, Tryd.ntmps73
      go_wp2_with (go_at_call 97; refine (letter_any _ _).mono ?_; rw [HL.out]; rintro e w' ⟨rfl, rfl⟩)
      clear hl
      go_loop [3] (fun i => ∃ k : Nat, k ≤ s.size ∧ i = .int .i64 k ∧ (s.data.toList.take k).all isSign = true) (fun i => s.size - (intOf i).toNat)
      case atStart => exact ⟨0, by omega, rfl, by simp⟩
      case round =>
        obtain ⟨k, hk, rfl, hall⟩ := hrel
        have HA := Lib.hid hall
        clear hall
        by_cases hlt : k < s.size
        · have hb := s[k].toNat_lt
          have hts := Lib.hid (all_take s k hlt)
          by_cases hlk : letterI (s[k].toNat : Int) = true
          · have HK := Lib.hid hlk
            clear hlk
            go_wp2_with (go_at_call 97; refine (letter_any _ _).mono ?_; rw [HK.out]; rintro e w' ⟨rfl, rfl⟩)
            go_round
            case rel => exact ⟨k + 1, by omega, by go_num, by rw [hts.out, HA.out, isSign_letter _ HK.out]; rfl⟩
            case measure => simp [intOf]; omega
          · have HK := Lib.hid (eq_false_of_ne_true hlk)
            clear hlk
            by_cases hd : 48 ≤ (s[k].toNat : Int) ∧ (s[k].toNat : Int) ≤ 57
            · have hS := Lib.hid (isSign_digit s[k] hd.1 hd.2)
              obtain ⟨g1, g2⟩ := hd
              go_wp2_with (go_at_call 97; refine (letter_any _ _).mono ?_; rw [HK.out]; rintro e w' ⟨rfl, rfl⟩)
              go_round
              case rel => exact ⟨k + 1, by omega, by go_num, by rw [hts.out, HA.out, hS.out]; rfl⟩
              case measure => simp [intOf]; omega
            · by_cases h45 : (s[k].toNat : Int) = 45
              · have hS := Lib.hid (isSign_other s[k] (.inl h45))
                have g1 : ((s[k].toNat : Int) != 45) = false := by simp [h45]
                have g2 : (s[k].toNat : Int) < 48 := by omega
                clear h45 hd
                go_wp2_with (go_at_call 97; refine (letter_any _ _).mono ?_; rw [HK.out]; rintro e w' ⟨rfl, rfl⟩)
                go_round
                case rel => exact ⟨k + 1, by omega, by go_num, by rw [hts.out, HA.out, hS.out]; rfl⟩
                case measure => simp [intOf]; omega
              · by_cases h46 : (s[k].toNat : Int) = 46
                · have hS := Lib.hid (isSign_other s[k] (.inr h46))
                  have g1 : ((s[k].toNat : Int) != 46) = false := by simp [h46]
                  have g0 : ((s[k].toNat : Int) != 45) = true := by simp [h46]
                  have g2 : (s[k].toNat : Int) < 48 := by omega
                  clear h45 h46 hd
                  go_wp2_with (go_at_call 97; refine (letter_any _ _).mono ?_; rw [HK.out]; rintro e w' ⟨rfl, rfl⟩)
                  go_round
                  case rel => exact ⟨k + 1, by omega, by go_num, by rw [hts.out, HA.out, hS.out]; rfl⟩
                  case measure => simp [intOf]; omega
                · have hS := Lib.hid (isSign_no s[k] HK.out (by omega) h45 h46)
                  have g0 : ((s[k].toNat : Int) != 45) = true := by simp [h45]
                  have g1 : ((s[k].toNat : Int) != 46) = true := by simp [h46]
                  by_cases h48 : (s[k].toNat : Int) < 48
                  · clear h45 h46 hd
                    go_wp2_with (go_at_call 97; refine (letter_any _ _).mono ?_; rw [HK.out]; rintro e w' ⟨rfl, rfl⟩)
                    go_ret
                    exact ⟨ret_bool (nm_no s k hlt hS.out).symm, rfl⟩
                  · have h57 : 57 < (s[k].toNat : Int) := by omega
                    have h48' : 48 ≤ (s[k].toNat : Int) := by omega
                    clear h45 h46 hd h48
                    go_wp2_with (go_at_call 97; refine (letter_any _ _).mono ?_; rw [HK.out]; rintro e w' ⟨rfl, rfl⟩)
                    go_ret
                    exact ⟨ret_bool (nm_no s k hlt hS.out).symm, rfl⟩
        · go_wp2
          go_ret
          obtain rfl : k = s.size := by omega
          exact ⟨ret_bool (nm_yes s h1' h2 HL.out HA.out).symm, rfl⟩
    · have HL := Lib.hid (eq_false_of_ne_true hl)
      clear hl
      go_enter Tryd.func73, Tryd.ntmps73
      go_wp2_with (go_at_call 97; refine (letter_any _ _).mono ?_; rw [HL.out]; rintro e w' ⟨rfl, rfl⟩)
      go_ret
      exact ⟨ret_bool (nm_head s h1' HL.out).symm, rfl⟩
  · rw [nm_size s hsz]
    go_enter Tryd.func73, Tryd.ntmps73
    go_wp2_with fail
    all_goals (first | (exfalso; omega) | (go_ret; exact ⟨rfl, rfl⟩))
end Go.Proofs.YtjcpgjnogcmalaaDoor

/-! What is wrong with a grant. -/
namespace Go.Proofs.YtjcpgjnogcmalaaDoor
set_option linter.unusedVariables false
set_option linter.unusedSimpArgs false
open Go.RowKit
open Go.Shelf
def prefd (p : ByteArray) : Bool := p.toList.isEmpty || nm p.data.toList
def okG (r : Int) (p : ByteArray) (x : Bool) (u : Int) : Bool := decide (1 ≤ r ∧ r ≤ 127 ∧ 0 ≤ u ∧ u ≤ 1099511627776) && !(x && p.toList.isEmpty)
def checkG (r : Int) (p : ByteArray) (x : Bool) (u : Int) : Int := if okG r p x u = true then (if prefd p = true then 0 else 10) else 1
set_option maxHeartbeats 1000000 in
set_option maxRecDepth 100000 in
theorem prefixed_any (p : ByteArray) (w : World) (hs : p.size ≤ 9223372036854775807) : Calls Tryd.prog 55 #[.string p] w fun e w' => e = .returned (.bool (prefd p)) ∧ Ext w w' := by
  by_cases h : p.toList.isEmpty = true
  · have e : prefd p = true := by unfold prefd; rw [h]; rfl
    rw [e]
    clear e
    go_enter Tryd.func55, Tryd.ntmps55
    go_wp2
    go_ret
    exact ⟨rfl, Ext.refl _⟩
  · have h' := eq_false_of_ne_true h
    have e : prefd p = nm p.data.toList := by unfold prefd; rw [h']; rfl
    rw [e]
    clear e h
    go_enter Tryd.func55, Tryd.ntmps55
    go_wp2_with (go_at_call 20; refine (name_any _ _ hs).mono ?_; rintro e w' ⟨rfl, hb⟩)
    go_ret
    exact ⟨rfl, hb⟩
set_option maxHeartbeats 1000000 in
set_option maxRecDepth 100000 in
theorem refprefix_any (p : ByteArray) (w : World) (hs : p.size ≤ 9223372036854775807) : Calls Tryd.prog 98 #[.string p] w fun e w' => e = .returned (.bool (prefd p)) ∧ Ext w w' := by
  by_cases h : p.toList.isEmpty = true
  · have e : prefd p = true := by unfold prefd; rw [h]; rfl
    rw [e]
    clear e
    go_enter Tryd.func98, Tryd.ntmps98
    go_wp2
    go_ret
    exact ⟨rfl, Ext.refl _⟩
  · have h' := eq_false_of_ne_true h
    have e : prefd p = nm p.data.toList := by unfold prefd; rw [h']; rfl
    rw [e]
    clear e h
    go_enter Tryd.func98, Tryd.ntmps98
    go_wp2_with (go_at_call 73; refine (refname_any _ _).mono ?_; rintro e w' ⟨rfl, rfl⟩)
    go_ret
    exact ⟨rfl, Ext.refl _⟩
set_option maxHeartbeats 1000000 in
set_option maxRecDepth 100000 in
theorem check_any (r : Int) (p : ByteArray) (x : Bool) (u : Int) (w : World) (hs : p.size ≤ 9223372036854775807) : Calls Tryd.prog 23 #[.agg #[.int .i64 r, .string p, .bool x, .int .i64 u]] w fun e w' => e = .returned (.int .i64 (checkG r p x u)) ∧ Ext w w' := by
  by_cases ho : okG r p x u = true
  · by_cases hp : prefd p = true
    · have e : checkG r p x u = 0 := by unfold checkG; rw [if_pos ho, if_pos hp]
      rw [e]
      simp only [okG, Bool.and_eq_true, decide_eq_true_eq, Bool.not_eq_true', Bool.and_eq_false_iff] at ho
      obtain ⟨⟨h1, h2, h3, h4⟩, h5⟩ := ho
      have HP := Lib.hid hp
      clear e hp
      rcases h5 with rfl | h5
      all_goals
        go_enter Tryd.func23, Tryd.ntmps23
        go_wp2_with (go_at_call 55; refine (prefixed_any _ _ hs).mono ?_; rw [HP.out]; rintro e w' ⟨rfl, hb⟩)
        all_goals (go_ret; exact ⟨rfl, by (repeat (first | assumption | exact Ext.refl _ | refine Ext.drew ?_ | refine Ext.alloc ?_ _ | refine Ext.drewN ?_ _ | refine Ext.trans ?_ (by assumption)))⟩)
    · have e : checkG r p x u = 10 := by unfold checkG; rw [if_pos ho, if_neg hp]
      rw [e]
      simp only [okG, Bool.and_eq_true, decide_eq_true_eq, Bool.not_eq_true', Bool.and_eq_false_iff] at ho
      obtain ⟨⟨h1, h2, h3, h4⟩, h5⟩ := ho
      have HP := Lib.hid (eq_false_of_ne_true hp)
      clear e hp
      rcases h5 with rfl | h5
      all_goals
        go_enter Tryd.func23, Tryd.ntmps23
        go_wp2_with (go_at_call 55; refine (prefixed_any _ _ hs).mono ?_; rw [HP.out]; rintro e w' ⟨rfl, hb⟩)
        all_goals (go_ret; exact ⟨rfl, by (repeat (first | assumption | exact Ext.refl _ | refine Ext.drew ?_ | refine Ext.alloc ?_ _ | refine Ext.drewN ?_ _ | refine Ext.trans ?_ (by assumption)))⟩)
  · have e : checkG r p x u = 1 := by unfold checkG; rw [if_neg ho]
    rw [e]
    clear e
    have h' : (r < 1 ∨ 127 < r ∨ u < 0 ∨ 1099511627776 < u) ∨ ((1 ≤ r ∧ r ≤ 127 ∧ 0 ≤ u ∧ u ≤ 1099511627776) ∧ x = true ∧ p.toList.isEmpty = true) := by
      simp only [okG, Bool.and_eq_true, decide_eq_true_eq, Bool.not_eq_true', Bool.and_eq_false_iff] at ho
      by_cases h : 1 ≤ r ∧ r ≤ 127 ∧ 0 ≤ u ∧ u ≤ 1099511627776
      · right
        refine ⟨h, ?_⟩
        have h2 := fun h3 => ho ⟨h, h3⟩
        cases x with
        | false => exact absurd (.inl rfl) h2
        | true =>
          refine ⟨rfl, ?_⟩
          cases h4 : p.toList.isEmpty with
          | false => exact absurd (.inr h4) h2
          | true => rfl
      · left; omega
    clear ho
    rcases h' with h | ⟨⟨h1, h2, h3, h4⟩, rfl, h5⟩
    · go_enter Tryd.func23, Tryd.ntmps23
      go_wp2_with fail
      all_goals (first | (exfalso; omega) | (go_ret; exact ⟨rfl, by (repeat (first | assumption | exact Ext.refl _ | refine Ext.drew ?_ | refine Ext.alloc ?_ _ | refine Ext.drewN ?_ _ | refine Ext.trans ?_ (by assumption)))⟩))
    · go_enter Tryd.func23, Tryd.ntmps23
      go_wp2
      go_ret
      exact ⟨rfl, by (repeat (first | assumption | exact Ext.refl _ | refine Ext.drew ?_ | refine Ext.alloc ?_ _ | refine Ext.drewN ?_ _ | refine Ext.trans ?_ (by assumption)))⟩
set_option maxHeartbeats 1000000 in
set_option maxRecDepth 100000 in
theorem refcheck_any (r : Int) (p : ByteArray) (x : Bool) (u : Int) (w : World) (hs : p.size ≤ 9223372036854775807) : Calls Tryd.prog 74 #[.agg #[.int .i64 r, .string p, .bool x, .int .i64 u]] w fun e w' => e = .returned (.int .i64 (checkG r p x u)) ∧ Ext w w' := by
  by_cases ho : okG r p x u = true
  · by_cases hp : prefd p = true
    · have e : checkG r p x u = 0 := by unfold checkG; rw [if_pos ho, if_pos hp]
      rw [e]
      simp only [okG, Bool.and_eq_true, decide_eq_true_eq, Bool.not_eq_true', Bool.and_eq_false_iff] at ho
      obtain ⟨⟨h1, h2, h3, h4⟩, h5⟩ := ho
      have HP := Lib.hid hp
      clear e hp
      rcases h5 with rfl | h5
      all_goals
        go_enter Tryd.func74, Tryd.ntmps74
        go_wp2_with (go_at_call 98; refine (refprefix_any _ _ hs).mono ?_; rw [HP.out]; rintro e w' ⟨rfl, hb⟩)
        all_goals (go_ret; exact ⟨rfl, by (repeat (first | assumption | exact Ext.refl _ | refine Ext.drew ?_ | refine Ext.alloc ?_ _ | refine Ext.drewN ?_ _ | refine Ext.trans ?_ (by assumption)))⟩)
    · have e : checkG r p x u = 10 := by unfold checkG; rw [if_pos ho, if_neg hp]
      rw [e]
      simp only [okG, Bool.and_eq_true, decide_eq_true_eq, Bool.not_eq_true', Bool.and_eq_false_iff] at ho
      obtain ⟨⟨h1, h2, h3, h4⟩, h5⟩ := ho
      have HP := Lib.hid (eq_false_of_ne_true hp)
      clear e hp
      rcases h5 with rfl | h5
      all_goals
        go_enter Tryd.func74, Tryd.ntmps74
        go_wp2_with (go_at_call 98; refine (refprefix_any _ _ hs).mono ?_; rw [HP.out]; rintro e w' ⟨rfl, hb⟩)
        all_goals (go_ret; exact ⟨rfl, by (repeat (first | assumption | exact Ext.refl _ | refine Ext.drew ?_ | refine Ext.alloc ?_ _ | refine Ext.drewN ?_ _ | refine Ext.trans ?_ (by assumption)))⟩)
  · have e : checkG r p x u = 1 := by unfold checkG; rw [if_neg ho]
    rw [e]
    clear e
    have h' : (r < 1 ∨ 127 < r ∨ u < 0 ∨ 1099511627776 < u) ∨ ((1 ≤ r ∧ r ≤ 127 ∧ 0 ≤ u ∧ u ≤ 1099511627776) ∧ x = true ∧ p.toList.isEmpty = true) := by
      simp only [okG, Bool.and_eq_true, decide_eq_true_eq, Bool.not_eq_true', Bool.and_eq_false_iff] at ho
      by_cases h : 1 ≤ r ∧ r ≤ 127 ∧ 0 ≤ u ∧ u ≤ 1099511627776
      · right
        refine ⟨h, ?_⟩
        have h2 := fun h3 => ho ⟨h, h3⟩
        cases x with
        | false => exact absurd (.inl rfl) h2
        | true =>
          refine ⟨rfl, ?_⟩
          cases h4 : p.toList.isEmpty with
          | false => exact absurd (.inr h4) h2
          | true => rfl
      · left; omega
    clear ho
    rcases h' with h | ⟨⟨h1, h2, h3, h4⟩, rfl, h5⟩
    · go_enter Tryd.func74, Tryd.ntmps74
      go_wp2_with fail
      all_goals (first | (exfalso; omega) | (go_ret; exact ⟨rfl, by (repeat (first | assumption | exact Ext.refl _ | refine Ext.drew ?_ | refine Ext.alloc ?_ _ | refine Ext.drewN ?_ _ | refine Ext.trans ?_ (by assumption)))⟩))
    · go_enter Tryd.func74, Tryd.ntmps74
      go_wp2
      go_ret
      exact ⟨rfl, by (repeat (first | assumption | exact Ext.refl _ | refine Ext.drew ?_ | refine Ext.alloc ?_ _ | refine Ext.drewN ?_ _ | refine Ext.trans ?_ (by assumption)))⟩
end Go.Proofs.YtjcpgjnogcmalaaDoor

/-! Rights and prefixes. -/
namespace Go.Proofs.YtjcpgjnogcmalaaDoor
set_option linter.unusedVariables false
set_option linter.unusedSimpArgs false
open Go.RowKit Go.Shelf
def hasR (a b : Int) : Bool := bits .and .i64 a b == b
def pre (s p : ByteArray) : Bool := p.data.toList.isPrefixOf s.data.toList
theorem pre_iff (s p : ByteArray) : pre s p = true ↔ p.data.toList <+: s.data.toList := List.isPrefixOf_iff_prefix
theorem pre_extract (s p : ByteArray) (h : p.size ≤ s.size) : ((s.extract 0 p.size).toList == p.toList) = pre s p := by
  rw [Bool.eq_iff_iff, beq_iff_eq, pre_iff, List.prefix_iff_eq_take, ByteArray.toList_eq, ByteArray.toList_eq]
  have e : (s.extract 0 p.size).data.toList = s.data.toList.take p.data.toList.length := by
    rw [len_is, ByteArray.data_extract, Array.toList_extract, List.extract_eq_take_drop]; simp
  rw [e]
  exact ⟨fun h => h.symm, fun h => h.symm⟩
theorem pre_long (s p : ByteArray) (h : ¬ p.size ≤ s.size) : pre s p = false := by
  rw [Bool.eq_false_iff, ne_eq, pre_iff]
  intro hp
  have := hp.length_le
  rw [len_is, len_is] at this
  omega
theorem pre_all (s p : ByteArray) (h : p.size ≤ s.size) (ha : ∀ j (hj : j < p.size), s[j]'(by omega) = p[j]) : pre s p = true := by
  rw [pre_iff, List.prefix_iff_eq_take]
  apply List.ext_getElem
  · rw [List.length_take, len_is, len_is]; omega
  · intro j h1 h2
    rw [len_is] at h1
    rw [List.getElem_take, Array.getElem_toList, Array.getElem_toList]
    exact (ha j h1).symm
theorem pre_not (s p : ByteArray) (h : p.size ≤ s.size) (j : Nat) (hj : j < p.size) (hne : ¬ s[j]'(by omega) = p[j]) : pre s p = false := by
  rw [Bool.eq_false_iff, ne_eq, pre_iff, List.prefix_iff_eq_take]
  intro he
  apply hne
  have h2 : s.data.toList[j]'(by rw [len_is]; omega) = p.data.toList[j]'(by rw [len_is]; omega) := by
    have := congrArg (fun l : List UInt8 => l[j]?) he
    rw [List.getElem?_take_of_lt (by rw [len_is]; omega), List.getElem?_eq_getElem (by rw [len_is]; omega), List.getElem?_eq_getElem (by rw [len_is]; omega)] at this
    exact (Option.some.inj this).symm
  exact h2
theorem has_any (a b : Int) (w : World) : Calls Tryd.prog 56 #[.int .i64 a, .int .i64 b] w fun e w' => e = .returned (.bool (hasR a b)) ∧ w = w' := by
  go_enter Tryd.func56, Tryd.ntmps56
  go_wp2
  go_ret
  exact ⟨rfl, rfl⟩
theorem has_val (a b : Int) (v : Bool) (h : hasR a b = v) (w : World) : Calls Tryd.prog 56 #[.int .i64 a, .int .i64 b] w fun e w' => e = .returned (.bool v) ∧ w' = w :=
  (has_any a b w).mono fun _ _ k => ⟨by rw [k.1, h], k.2.symm⟩
/-- The reference asks by 'or'. -/
theorem or_is_and (a b : Int) (ha : (Lit.int .i64 a).wf = true) (hb : (Lit.int .i64 b).wf = true) : (bits .or .i64 a b == a) = hasR a b := by
  have wa : -9223372036854775808 ≤ a ∧ a ≤ 9223372036854775807 := by simpa [Lit.wf, IntKind.min, IntKind.max, IntKind.signed, IntKind.bits] using ha
  have wb : -9223372036854775808 ≤ b ∧ b ≤ 9223372036854775807 := by simpa [Lit.wf, IntKind.min, IntKind.max, IntKind.signed, IntKind.bits] using hb
  have key : ∀ (x : Int) (X : BitVec 64), -9223372036854775808 ≤ x → x ≤ 9223372036854775807 → (IntKind.i64.wrap (X.toNat : Int) = x ↔ X = BitVec.ofInt 64 x) := by
    intro x X h1 h2
    have e : IntKind.i64.wrap (X.toNat : Int) = X.toInt := by
      rw [IntKind.wrap_i64, BitVec.toInt_eq_toNat_cond]
      have := X.isLt
      split <;> omega
    rw [e]
    constructor
    · intro h; rw [← h, BitVec.ofInt_toInt]
    · intro h; rw [h, BitVec.toInt_ofInt]
      simp [Int.bmod]; omega
  unfold hasR
  rw [Bool.eq_iff_iff, beq_iff_eq, beq_iff_eq]
  show IntKind.i64.wrap ((BitVec.ofInt 64 a ||| BitVec.ofInt 64 b).toNat : Int) = a ↔ IntKind.i64.wrap ((BitVec.ofInt 64 a &&& BitVec.ofInt 64 b).toNat : Int) = b
  rw [key a _ wa.1 wa.2, key b _ wb.1 wb.2]
  generalize BitVec.ofInt 64 a = A
  generalize BitVec.ofInt 64 b = B
  constructor
  · intro h
    apply BitVec.eq_of_getLsbD_eq
    intro i hi
    have := congrArg (fun v : BitVec 64 => v.getLsbD i) h
    simp only [BitVec.getLsbD_or, BitVec.getLsbD_and] at *
    cases hA : A.getLsbD i <;> cases hB : B.getLsbD i <;> simp_all
  · intro h
    apply BitVec.eq_of_getLsbD_eq
    intro i hi
    have := congrArg (fun v : BitVec 64 => v.getLsbD i) h
    simp only [BitVec.getLsbD_or, BitVec.getLsbD_and] at *
    cases hA : A.getLsbD i <;> cases hB : B.getLsbD i <;> simp_all
theorem refhas_any (a b : Int) (w : World) (ha : (Lit.int .i64 a).wf = true) (hb : (Lit.int .i64 b).wf = true) : Calls Tryd.prog 99 #[.int .i64 a, .int .i64 b] w fun e w' => e = .returned (.bool (hasR a b)) ∧ w = w' := by
  rw [← or_is_and a b ha hb]
  clear ha hb
  go_enter Tryd.func99, Tryd.ntmps99
  go_wp2
  go_ret
  exact ⟨rfl, rfl⟩
theorem prefix0_any (s p : ByteArray) (w : World) : Calls Tryd.prog 107 #[.string s, .string p] w fun e w' => e = .returned (.bool (pre s p)) ∧ w = w' := by
  by_cases h : p.size ≤ s.size
  · rw [← pre_extract s p h]
    go_enter Tryd.func107, Tryd.ntmps107
    go_wp2
    go_ret
    exact ⟨rfl, rfl⟩
  · rw [pre_long s p h]
    go_enter Tryd.func107, Tryd.ntmps107
    go_wp2
    go_ret
    exact ⟨rfl, rfl⟩
theorem prefix_any (s p : ByteArray) (w : World) : Calls Tryd.prog 89 #[.string s, .string p] w fun e w' => e = .returned (.bool (pre s p)) ∧ Ext w w' := by
  go_enter Tryd.func89, Tryd.ntmps89
  go_wp2_with (go_at_call 107; refine (prefix0_any _ _ _).mono ?_; rintro e w' ⟨rfl, rfl⟩)
  go_ret
  exact ⟨rfl, Ext.refl _⟩
set_option maxHeartbeats 1000000 in
set_option maxRecDepth 100000 in
theorem begins_any (s p : ByteArray) (w : World) (hp : p.size ≤ 9223372036854775807) : Calls Tryd.prog 100 #[.string s, .string p] w fun e w' => e = .returned (.bool (pre s p)) ∧ Ext w w' := by
  by_cases h : p.size ≤ s.size
  · go_enter Tryd.func100, Tryd.ntmps100
    go_wp2
    go_loopw [5] (fun i wr => ∃ k : Nat, k ≤ p.size ∧ i = .int .i64 k ∧ (∀ j (hj : j < k) (hp : j < p.size) (hs : j < s.size), s[j] = p[j]) ∧ Ext w wr) (fun i _ => p.size - (intOf i).toNat)
    case atStart => exact ⟨0, by omega, rfl, fun j hj => absurd hj (by omega), Ext.refl _⟩
    case round =>
      obtain ⟨k, hk, rfl, hall, hwr⟩ := hrel
      have HA := Lib.hid hall
      clear hall
      by_cases hlt : k < p.size
      · have hls : k < s.size := by omega
        have hz : (0 : Int) ≤ k := by omega
        have hi1 : (k : Int) < s.size := by omega
        have hi2 : (k : Int) < p.size := by omega
        by_cases he : s[k] = p[k]
        · have H := Lib.hid he
          have hb : ((s[k].toNat : Int) != (p[k].toNat : Int)) = false := by simp [he]
          clear he
          go_wp2_with fail
          go_quiet (fail)
          go_wp2
          go_roundw
          case rel => exact ⟨k + 1, by omega, by go_num, fun j hj h1 h2 => by
            rcases Nat.lt_or_ge j k with h3 | h3
            · exact HA.out j h3 h1 h2
            · obtain rfl : j = k := by omega
              exact H.out, hwr.drewN _⟩
          case measure => simp [intOf]; omega
        · have H := Lib.hid he
          have hb : ((s[k].toNat : Int) != (p[k].toNat : Int)) = true := by
            simp only [bne_iff_ne, ne_eq]
            intro h3
            apply he
            exact UInt8.toNat_inj.1 (by omega)
          clear he
          go_wp2_with fail
          go_quiet (fail)
          go_wp2
          go_ret
          exact ⟨ret_bool (pre_not s p h k hlt H.out).symm, hwr.drewN _⟩
      · go_wp2
        go_ret
        exact ⟨ret_bool (pre_all s p h (fun j hj => HA.out j (by omega) hj (by omega))).symm, hwr⟩
  · rw [pre_long s p h]
    go_enter Tryd.func100, Tryd.ntmps100
    go_wp2
    go_ret
    exact ⟨rfl, Ext.refl _⟩
end Go.Proofs.YtjcpgjnogcmalaaDoor

/-! Grants: what the program and the reference compute of them. -/
namespace Go.Proofs.YtjcpgjnogcmalaaDoor
set_option linter.unusedVariables false
set_option linter.unusedSimpArgs false
open Go.RowKit Go.Shelf
def holdsS (p : ByteArray) (x : Bool) (s : ByteArray) : Bool := if x = true then s.toList == p.toList else pre s p
def withinS (p : ByteArray) (x : Bool) (p' : ByteArray) (x' : Bool) : Bool := if x = true ∧ x' = false then false else holdsS p x p'
def coversG (r : Int) (p : ByteArray) (x : Bool) (right : Int) (s : ByteArray) : Bool := hasR r right && holdsS p x s
def wholeG (p : ByteArray) (x : Bool) : Bool := p.toList.isEmpty && !x
def earlyG (u u' : Int) : Bool := decide (u = 0 ∨ (1 ≤ u' ∧ u' ≤ u))
def narrowG (r : Int) (p : ByteArray) (x : Bool) (u r' : Int) (p' : ByteArray) (x' : Bool) (u' : Int) : Bool := earlyG u u' && hasR r r' && withinS p x p' x'
set_option maxHeartbeats 1000000 in
set_option maxRecDepth 100000 in
theorem scopeOf_any (r : Int) (p : ByteArray) (x : Bool) (u : Int) (w : World) : Calls Tryd.prog 57 #[.agg #[.int .i64 r, .string p, .bool x, .int .i64 u]] w fun e w' => e = .returned (.agg #[.string p, .bool x]) ∧ Ext w w' := by
  go_enter Tryd.func57, Tryd.ntmps57
  go_wp2
  exact bodyPost_ret (v := .agg #[.string p, .bool x]) (by simp [results, Tryd.results57, go_sem]) rfl ⟨rfl, by (repeat (first | assumption | exact Ext.refl _ | refine Ext.drew ?_ | refine Ext.alloc ?_ _ | refine Ext.drewN ?_ _ | refine Ext.trans ?_ (by assumption)))⟩
set_option maxHeartbeats 1000000 in
set_option maxRecDepth 100000 in
theorem holds_any (p : ByteArray) (x : Bool) (s : ByteArray) (w : World) : Calls Tryd.prog 62 #[.agg #[.string p, .bool x], .string s] w fun e w' => e = .returned (.bool (holdsS p x s)) ∧ Ext w w' := by
  cases x with
  | true =>
    have e : holdsS p true s = (s.toList == p.toList) := rfl
    rw [e]
    clear e
    go_enter Tryd.func62, Tryd.ntmps62
    go_wp2
    go_ret
    exact ⟨rfl, by (repeat (first | assumption | exact Ext.refl _ | refine Ext.drew ?_ | refine Ext.alloc ?_ _ | refine Ext.drewN ?_ _ | refine Ext.trans ?_ (by assumption)))⟩
  | false =>
    have e : holdsS p false s = pre s p := rfl
    rw [e]
    clear e
    go_enter Tryd.func62, Tryd.ntmps62
    go_wp2_with (go_at_call 89; refine (prefix_any _ _ _).mono ?_; rintro e w' ⟨rfl, hb⟩)
    go_ret
    exact ⟨rfl, by (repeat (first | assumption | exact Ext.refl _ | refine Ext.drew ?_ | refine Ext.alloc ?_ _ | refine Ext.drewN ?_ _ | refine Ext.trans ?_ (by assumption)))⟩
set_option maxHeartbeats 1000000 in
set_option maxRecDepth 100000 in
theorem within_any (p : ByteArray) (x : Bool) (p' : ByteArray) (x' : Bool) (w : World) : Calls Tryd.prog 58 #[.agg #[.string p, .bool x], .agg #[.string p', .bool x']] w fun e w' => e = .returned (.bool (withinS p x p' x')) ∧ Ext w w' := by
  cases x with
  | true =>
    cases x' with
    | true =>
      have e : withinS p true p' true = holdsS p true p' := rfl
      rw [e]
      clear e
      go_enter Tryd.func58, Tryd.ntmps58
      go_wp2_with (go_at_call 62; refine (holds_any _ _ _ _).mono ?_; rintro e w' ⟨rfl, hb⟩)
      go_ret
      exact ⟨rfl, by (repeat (first | assumption | exact Ext.refl _ | refine Ext.drew ?_ | refine Ext.alloc ?_ _ | refine Ext.drewN ?_ _ | refine Ext.trans ?_ (by assumption)))⟩
    | false =>
      have e : withinS p true p' false = false := rfl
      rw [e]
      clear e
      go_enter Tryd.func58, Tryd.ntmps58
      go_wp2
      go_ret
      exact ⟨rfl, by (repeat (first | assumption | exact Ext.refl _ | refine Ext.drew ?_ | refine Ext.alloc ?_ _ | refine Ext.drewN ?_ _ | refine Ext.trans ?_ (by assumption)))⟩
  | false =>
    have e : withinS p false p' x' = holdsS p false p' := by unfold withinS; rw [if_neg (by simp)]
    rw [e]
    clear e
    go_enter Tryd.func58, Tryd.ntmps58
    go_wp2_with (go_at_call 62; refine (holds_any _ _ _ _).mono ?_; rintro e w' ⟨rfl, hb⟩)
    go_ret
    exact ⟨rfl, by (repeat (first | assumption | exact Ext.refl _ | refine Ext.drew ?_ | refine Ext.alloc ?_ _ | refine Ext.drewN ?_ _ | refine Ext.trans ?_ (by assumption)))⟩
end Go.Proofs.YtjcpgjnogcmalaaDoor

/-! Grants: covering, being whole, being within. -/
namespace Go.Proofs.YtjcpgjnogcmalaaDoor
set_option linter.unusedVariables false
set_option linter.unusedSimpArgs false
open Go.RowKit Go.Shelf
set_option maxHeartbeats 1000000 in
set_option maxRecDepth 100000 in
theorem covers_any (r : Int) (p : ByteArray) (x : Bool) (u right : Int) (s : ByteArray) (w : World) : Calls Tryd.prog 29 #[.agg #[.int .i64 r, .string p, .bool x, .int .i64 u], .int .i64 right, .string s] w fun e w' => e = .returned (.bool (coversG r p x right s)) ∧ Ext w w' := by
  obtain ⟨W, hW, hE, b1⟩ := box1 w #[.int .i64 r, .string p, .bool x, .int .i64 u] 35
  have c0 := b1 0 _ rfl
  have c1 := b1 1 _ rfl
  have c2 := b1 2 _ rfl
  have c3 := b1 3 _ rfl
  clear b1
  by_cases h : hasR r right = true
  · have e : coversG r p x right s = holdsS p x s := by unfold coversG; rw [h]; rfl
    rw [e]
    have HH := Lib.hid h
    clear e h
    go_enter Tryd.func29, Tryd.ntmps29
    go_wp2_with fail
    rw [← hW]
    clear hW
    refine (has_any _ _ _).mono ?_
    rw [HH.out]
    rintro e w' ⟨rfl, rfl⟩
    go_wp2_with (first | (go_at_call 57; refine (scopeOf_any _ _ _ _ _).mono ?_; rintro e w' ⟨rfl, hb⟩) | (go_at_call 62; refine (holds_any _ _ _ _).mono ?_; rintro e w' ⟨rfl, hb⟩))
    go_ret
    exact ⟨rfl, by (repeat (first | assumption | exact Ext.refl _ | refine Ext.drew ?_ | refine Ext.alloc ?_ _ | refine Ext.drewN ?_ _ | refine Ext.trans ?_ (by assumption)))⟩
  · have h' := eq_false_of_ne_true h
    have e : coversG r p x right s = false := by unfold coversG; rw [h']; rfl
    rw [e]
    have HH := Lib.hid h'
    clear e h h'
    go_enter Tryd.func29, Tryd.ntmps29
    go_wp2_with fail
    rw [← hW]
    clear hW
    refine (has_any _ _ _).mono ?_
    rw [HH.out]
    rintro e w' ⟨rfl, rfl⟩
    go_wp2
    go_ret
    exact ⟨rfl, by (repeat (first | assumption | exact Ext.refl _ | refine Ext.drew ?_ | refine Ext.alloc ?_ _ | refine Ext.drewN ?_ _ | refine Ext.trans ?_ (by assumption)))⟩
set_option maxHeartbeats 1000000 in
set_option maxRecDepth 100000 in
theorem narrow_any (r : Int) (p : ByteArray) (x : Bool) (u r' : Int) (p' : ByteArray) (x' : Bool) (u' : Int) (w : World) : Calls Tryd.prog 24 #[.agg #[.int .i64 r, .string p, .bool x, .int .i64 u], .agg #[.int .i64 r', .string p', .bool x', .int .i64 u']] w fun e w' => e = .returned (.bool (narrowG r p x u r' p' x' u')) ∧ Ext w w' := by
  obtain ⟨W, hW, hE, b1, b2⟩ := box2 w #[.int .i64 r, .string p, .bool x, .int .i64 u] #[.int .i64 r', .string p', .bool x', .int .i64 u'] 35 35
  have c0 := b1 0 _ rfl
  have c1 := b1 1 _ rfl
  have c2 := b1 2 _ rfl
  have c3 := b1 3 _ rfl
  have d0 := b2 0 _ rfl
  have d1 := b2 1 _ rfl
  have d2 := b2 2 _ rfl
  have d3 := b2 3 _ rfl
  clear b1 b2
  have r0 := fun (w' : World) (h : Ext W w') => h.cellk c0
  have s0 := fun (w' : World) (h : Ext W w') => h.cellk d0
  have r1 := fun (w' : World) (h : Ext W w') => h.cellk c1
  have s1 := fun (w' : World) (h : Ext W w') => h.cellk d1
  have r2 := fun (w' : World) (h : Ext W w') => h.cellk c2
  have s2 := fun (w' : World) (h : Ext W w') => h.cellk d2
  have r3 := fun (w' : World) (h : Ext W w') => h.cellk c3
  have s3 := fun (w' : World) (h : Ext W w') => h.cellk d3
  by_cases he : earlyG u u' = true
  · by_cases hh : hasR r r' = true
    · have e : narrowG r p x u r' p' x' u' = withinS p x p' x' := by unfold narrowG; rw [he, hh]; rfl
      rw [e]
      have HH := Lib.hid hh
      clear e hh
      simp only [earlyG, decide_eq_true_eq] at he
      by_cases hu : u = 0
      · have hu0 : (u == 0) = true := by simp [hu]
        clear hu he
        go_enter Tryd.func24, Tryd.ntmps24
        go_wp2_with fail
        rw [← hW]
        clear hW
        go_region_held3 (fun w' => Ext W w') (((repeat (first | assumption | exact Ext.refl _ | refine Ext.drew ?_ | refine Ext.drewN ?_ _ | refine Ext.alloc ?_ _ | (refine Ext.set ?_ (Ext.le (by assumption)) _) | (refine Ext.set ?_ (Nat.le_refl _) _) | refine Ext.trans ?_ (by assumption))); done)) (first | (go_at_call 56; refine (has_any _ _ _).mono ?_; rw [HH.out]; rintro e w' ⟨rfl, rfl⟩) | (go_at_call 57; refine (scopeOf_any _ _ _ _ _).mono ?_; rintro e w' ⟨rfl, hb⟩) | (go_at_call 58; refine (within_any _ _ _ _ _).mono ?_; rintro e w' ⟨rfl, hb⟩))
        go_wp2
        go_ret
        exact ⟨rfl, by (repeat (first | assumption | exact Ext.refl _ | refine Ext.drew ?_ | refine Ext.alloc ?_ _ | refine Ext.drewN ?_ _ | refine Ext.trans ?_ (by assumption)))⟩
      · have hu0 : (u == 0) = false := by simp [hu]
        obtain ⟨h1, h2⟩ : 1 ≤ u' ∧ u' ≤ u := by omega
        clear hu he
        go_enter Tryd.func24, Tryd.ntmps24
        go_wp2_with fail
        rw [← hW]
        clear hW
        go_region_held3 (fun w' => Ext W w') (((repeat (first | assumption | exact Ext.refl _ | refine Ext.drew ?_ | refine Ext.drewN ?_ _ | refine Ext.alloc ?_ _ | (refine Ext.set ?_ (Ext.le (by assumption)) _) | (refine Ext.set ?_ (Nat.le_refl _) _) | refine Ext.trans ?_ (by assumption))); done)) (first | (go_at_call 56; refine (has_any _ _ _).mono ?_; rw [HH.out]; rintro e w' ⟨rfl, rfl⟩) | (go_at_call 57; refine (scopeOf_any _ _ _ _ _).mono ?_; rintro e w' ⟨rfl, hb⟩) | (go_at_call 58; refine (within_any _ _ _ _ _).mono ?_; rintro e w' ⟨rfl, hb⟩))
        go_wp2
        go_ret
        exact ⟨rfl, by (repeat (first | assumption | exact Ext.refl _ | refine Ext.drew ?_ | refine Ext.alloc ?_ _ | refine Ext.drewN ?_ _ | refine Ext.trans ?_ (by assumption)))⟩
    · have hh' := eq_false_of_ne_true hh
      have e : narrowG r p x u r' p' x' u' = false := by unfold narrowG; rw [he, hh']; rfl
      rw [e]
      have HH := Lib.hid hh'
      clear e hh hh'
      simp only [earlyG, decide_eq_true_eq] at he
      by_cases hu : u = 0
      · have hu0 : (u == 0) = true := by simp [hu]
        clear hu he
        go_enter Tryd.func24, Tryd.ntmps24
        go_wp2_with fail
        rw [← hW]
        clear hW
        go_quiet ((go_at_call 56; exact Calls.quiet_of_same (has_val _ _ _ HH.out _)))
        go_wp2
        go_ret
        exact ⟨rfl, by (repeat (first | assumption | exact Ext.refl _ | refine Ext.drew ?_ | refine Ext.alloc ?_ _ | refine Ext.drewN ?_ _ | refine Ext.trans ?_ (by assumption)))⟩
      · have hu0 : (u == 0) = false := by simp [hu]
        obtain ⟨h1, h2⟩ : 1 ≤ u' ∧ u' ≤ u := by omega
        clear hu he
        go_enter Tryd.func24, Tryd.ntmps24
        go_wp2_with fail
        rw [← hW]
        clear hW
        go_quiet ((go_at_call 56; exact Calls.quiet_of_same (has_val _ _ _ HH.out _)))
        go_wp2
        go_ret
        exact ⟨rfl, by (repeat (first | assumption | exact Ext.refl _ | refine Ext.drew ?_ | refine Ext.alloc ?_ _ | refine Ext.drewN ?_ _ | refine Ext.trans ?_ (by assumption)))⟩
  · have he' := eq_false_of_ne_true he
    have e : narrowG r p x u r' p' x' u' = false := by unfold narrowG; rw [he']; rfl
    rw [e]
    simp only [earlyG, decide_eq_true_eq] at he
    have hu0 : (u == 0) = false := by simp; omega
    by_cases h1 : 1 ≤ u'
    · have h2 : u < u' := by omega
      have hd : decide (u' ≤ u) = false := by simp; omega
      clear e he he'
      go_enter Tryd.func24, Tryd.ntmps24
      go_wp2_with fail
      rw [← hW]
      clear hW
      go_quiet (fail)
      go_wp2
      go_ret
      exact ⟨rfl, by (repeat (first | assumption | exact Ext.refl _ | refine Ext.drew ?_ | refine Ext.alloc ?_ _ | refine Ext.drewN ?_ _ | refine Ext.trans ?_ (by assumption)))⟩
    · have h2 : u' < 1 := by omega
      have hd : decide (1 ≤ u') = false := by simp; omega
      clear e he he'
      go_enter Tryd.func24, Tryd.ntmps24
      go_wp2_with fail
      rw [← hW]
      clear hW
      go_quiet (fail)
      go_wp2
      go_ret
      exact ⟨rfl, by (repeat (first | assumption | exact Ext.refl _ | refine Ext.drew ?_ | refine Ext.alloc ?_ _ | refine Ext.drewN ?_ _ | refine Ext.trans ?_ (by assumption)))⟩
set_option maxHeartbeats 1000000 in
set_option maxRecDepth 100000 in
theorem refnarrow_any (r : Int) (p : ByteArray) (x : Bool) (u r' : Int) (p' : ByteArray) (x' : Bool) (u' : Int) (w : World) (hr : (Lit.int .i64 r).wf = true) (hq : (Lit.int .i64 r').wf = true) (hp : p.size ≤ 9223372036854775807) : Calls Tryd.prog 75 #[.agg #[.int .i64 r, .string p, .bool x, .int .i64 u], .agg #[.int .i64 r', .string p', .bool x', .int .i64 u']] w fun e w' => e = .returned (.bool (narrowG r p x u r' p' x' u')) ∧ Ext w w' := by
  obtain ⟨W, hW, hE, b1, b2⟩ := box2 w #[.int .i64 r, .string p, .bool x, .int .i64 u] #[.int .i64 r', .string p', .bool x', .int .i64 u'] 35 35
  have c0 := b1 0 _ rfl
  have c1 := b1 1 _ rfl
  have c2 := b1 2 _ rfl
  have c3 := b1 3 _ rfl
  have d0 := b2 0 _ rfl
  have d1 := b2 1 _ rfl
  have d2 := b2 2 _ rfl
  have d3 := b2 3 _ rfl
  clear b1 b2
  go_enter Tryd.func75, Tryd.ntmps75
  go_wp2_with fail
  rw [← hW]
  clear hW
  refine (refhas_any _ _ _ hr hq).mono ?_
  by_cases hh : hasR r r' = true
  · rw [hh]
    rintro e w' ⟨rfl, rfl⟩
    cases x with
    | true =>
      cases x' with
      | false =>
        have e : narrowG r p true u r' p' false u' = false := by unfold narrowG withinS; simp
        have HN := Lib.hid e
        clear e
        go_wp2
        go_ret
        exact ⟨ret_bool HN.out.symm, by (repeat (first | assumption | exact Ext.refl _ | refine Ext.drew ?_ | refine Ext.alloc ?_ _ | refine Ext.drewN ?_ _ | refine Ext.trans ?_ (by assumption)))⟩
      | true =>
        by_cases hpp : (p.toList == p'.toList) = true
        · have hpre : pre p' p = true := by
            rw [pre_iff, ← ByteArray.toList_eq, ← ByteArray.toList_eq, beq_iff_eq.1 hpp]
            exact List.prefix_refl _
          have e : narrowG r p true u r' p' true u' = earlyG u u' := by
            unfold narrowG withinS holdsS; rw [hh, beq_iff_eq.1 hpp]; simp
          have HN := Lib.hid e
          have HP := Lib.hid hpre
          have hne : (!p.toList == p'.toList) = false := by rw [hpp]; rfl
          clear e hpre hpp
          go_wp2_with (go_at_call 100; refine (begins_any _ _ _ hp).mono ?_; rw [HP.out]; rintro e w' ⟨rfl, hb⟩; have g3 := hb.cellk c3; have k3 := hb.cellk d3)
          all_goals
            go_ret
            refine ⟨ret_bool ?_, by (repeat (first | assumption | exact Ext.refl _ | refine Ext.drew ?_ | refine Ext.alloc ?_ _ | refine Ext.drewN ?_ _ | refine Ext.trans ?_ (by assumption)))⟩
            rw [HN.out, Bool.eq_iff_iff]
            simp [earlyG]
            omega
        · have e : narrowG r p true u r' p' true u' = false := by
            unfold narrowG withinS holdsS
            have : (p'.toList == p.toList) = false := by
              rw [beq_eq_false_iff_ne]; intro h; apply hpp; rw [h]; simp
            simp [this]
          have HN := Lib.hid e
          have hne : (!p.toList == p'.toList) = true := by rw [eq_false_of_ne_true hpp]; rfl
          clear e hpp
          go_wp2
          go_ret
          exact ⟨ret_bool HN.out.symm, by (repeat (first | assumption | exact Ext.refl _ | refine Ext.drew ?_ | refine Ext.alloc ?_ _ | refine Ext.drewN ?_ _ | refine Ext.trans ?_ (by assumption)))⟩
    | false =>
      by_cases hpre : pre p' p = true
      · have e : narrowG r p false u r' p' x' u' = earlyG u u' := by
          unfold narrowG withinS holdsS; rw [hh, hpre]; simp
        have HN := Lib.hid e
        have HP := Lib.hid hpre
        clear e hpre
        go_wp2_with (go_at_call 100; refine (begins_any _ _ _ hp).mono ?_; rw [HP.out]; rintro e w' ⟨rfl, hb⟩; have g3 := hb.cellk c3; have k3 := hb.cellk d3)
        all_goals
          go_ret
          refine ⟨ret_bool ?_, by (repeat (first | assumption | exact Ext.refl _ | refine Ext.drew ?_ | refine Ext.alloc ?_ _ | refine Ext.drewN ?_ _ | refine Ext.trans ?_ (by assumption)))⟩
          rw [HN.out, Bool.eq_iff_iff]
          simp [earlyG]
          omega
      · have e : narrowG r p false u r' p' x' u' = false := by
          unfold narrowG withinS holdsS; rw [eq_false_of_ne_true hpre]; simp
        have HN := Lib.hid e
        have HP := Lib.hid (eq_false_of_ne_true hpre)
        clear e hpre
        go_wp2_with (go_at_call 100; refine (begins_any _ _ _ hp).mono ?_; rw [HP.out]; rintro e w' ⟨rfl, hb⟩)
        go_ret
        exact ⟨ret_bool HN.out.symm, by (repeat (first | assumption | exact Ext.refl _ | refine Ext.drew ?_ | refine Ext.alloc ?_ _ | refine Ext.drewN ?_ _ | refine Ext.trans ?_ (by assumption)))⟩
  · have h := eq_false_of_ne_true hh
    have e : narrowG r p x u r' p' x' u' = false := by unfold narrowG; rw [h]; simp
    have HN := Lib.hid e
    rw [h]
    rintro e w' ⟨rfl, rfl⟩
    clear e
    go_wp2
    go_ret
    exact ⟨ret_bool HN.out.symm, by (repeat (first | assumption | exact Ext.refl _ | refine Ext.drew ?_ | refine Ext.alloc ?_ _ | refine Ext.drewN ?_ _ | refine Ext.trans ?_ (by assumption)))⟩
end Go.Proofs.YtjcpgjnogcmalaaDoor

/-! Commands and answers, without the program: their shape, what is wrong with one, its bytes. -/
namespace Go.Proofs.YtjcpgjnogcmalaaDoor
set_option linter.unusedVariables false
set_option linter.unusedSimpArgs false
open Go.RowKit
structure Grant where
  r : Int
  p : ByteArray
  x : Bool
  u : Int
structure Tok where
  ten : ByteArray
  id : Int
  gs : List Grant
  mac : List UInt8
structure Cmd where
  kind : Int
  tok : Tok
  st : ByteArray
  su : ByteArray
  ex : Int
  bodies : List (List UInt8)
  fr : Int
  ct : Int
  gr : Grant
  id : Int
structure Shn where
  st : ByteArray
  su : ByteArray
  ver : Int
  pos : Int
  code : Int
  body : List UInt8
structure Ent where
  no : Int
  clock : Int
  kind : Int
  code : Int
  id : Int
  st : ByteArray
  su : ByteArray
  sum : List UInt8
structure Ans where
  code : Int
  num : Int
  shown : List Shn
  tok : Tok
  ents : List Ent
def b2i (b : Bool) : Int := if b = true then 1 else 0
def gB (g : Grant) : List UInt8 := num8 g.r ++ (txtB g.p ++ (num8 (b2i g.x) ++ num8 g.u))
def gsB (l : List Grant) : List UInt8 := l.flatMap gB
def tokB (t : Tok) : List UInt8 := txtB t.ten ++ (num8 t.id ++ ((num8 t.gs.length ++ t.gs.flatMap gB) ++ t.mac))
def blobB (p : List UInt8) : List UInt8 := num8 p.length ++ p
def cmdB (c : Cmd) : List UInt8 := num8 c.kind ++ (tokB c.tok ++ (txtB c.st ++ (txtB c.su ++ (num8 c.ex ++ ((num8 c.bodies.length ++ c.bodies.flatMap blobB) ++ (num8 c.fr ++ (num8 c.ct ++ (gB c.gr ++ num8 c.id))))))))
def shB (s : Shn) : List UInt8 := txtB s.st ++ (txtB s.su ++ (num8 s.ver ++ (num8 s.pos ++ (num8 s.code ++ blobB s.body))))
def enB (e : Ent) : List UInt8 := num8 e.no ++ (num8 e.clock ++ (num8 e.kind ++ (num8 e.code ++ (num8 e.id ++ (txtB e.st ++ (txtB e.su ++ e.sum))))))
def ansB (a : Ans) : List UInt8 := num8 a.code ++ (num8 a.num ++ ((num8 a.shown.length ++ a.shown.flatMap shB) ++ (tokB a.tok ++ (num8 a.ents.length ++ a.ents.flatMap enB))))
/-! what is wrong -/
def kindF (k : Int) : List Nat := if k = 1 then [0, 1, 2, 3] else if k = 2 then [0, 4, 5] else if k = 3 then [4, 5] else if k = 4 then [1] else if k = 5 then [6] else if k = 6 then [7] else if k = 7 then [4, 5] else if k = 8 then [4] else []
def hasF (k : Int) (f : Nat) : Bool := (kindF k).contains f
def namedG (s : ByteArray) (must : Bool) : Bool := (!must && s.toList.isEmpty) || nm s.data.toList
def oddG (must : Bool) (n least most : Int) : Bool := must && decide (n < least ∨ most < n)
def longS (s : ByteArray) : Bool := decide (24 < s.size)
def longT (t : Tok) : Bool := longS t.ten || t.gs.any fun g => longS g.p
def longB (p : List UInt8) : Bool := decide (256 < p.length)
def zeroG (g : Grant) : Bool := decide (g.r = 0) && (g.p.toList.isEmpty && (!g.x && decide (g.u = 0)))
/-- The fields that are not zero. -/
def giveG (c : Cmd) : List Bool := [!c.st.toList.isEmpty, !c.su.toList.isEmpty, decide (c.ex ≠ 0), decide (0 < c.bodies.length), decide (c.fr ≠ 0), decide (c.ct ≠ 0), !zeroG c.gr, decide (c.id ≠ 0)]
def foreignG (c : Cmd) : Bool := (List.range 8).any fun i => (giveG c).getD i false && !hasF c.kind i
def cmdG (c : Cmd) : Int :=
  if c.kind < 1 ∨ 8 < c.kind then 2
  else if (!namedG c.st (hasF c.kind 0) || !namedG c.su (hasF c.kind 1)) = true then 10
  else if (oddG (hasF c.kind 2) c.ex (-1) 1000 || (oddG (hasF c.kind 4) c.fr 1 1099511627776 || (oddG (hasF c.kind 5) c.ct 0 64 || (oddG (hasF c.kind 7) c.id 1 1099511627776 || (hasF c.kind 3 && decide (c.bodies.length = 0)))))) = true then 1
  else if 4 < c.bodies.length ∨ 6 < c.tok.gs.length then 3
  else if (c.bodies.any longB || longT c.tok) = true then 5
  else if hasF c.kind 6 = true ∧ checkG c.gr.r c.gr.p c.gr.x c.gr.u ≠ 0 then checkG c.gr.r c.gr.p c.gr.x c.gr.u
  else if foreignG c = true then 11 else 0
def longH (s : Shn) : Bool := longS s.st || (longS s.su || longB s.body)
def longE (e : Ent) : Bool := longS e.st || longS e.su
def ansG (a : Ans) : Int :=
  if 64 < a.shown.length ∨ 64 < a.ents.length ∨ 6 < a.tok.gs.length then 3
  else if (longT a.tok || (a.shown.any longH || a.ents.any longE)) = true then 5 else 0
/-! zero values -/
def zMac : List UInt8 := List.replicate 32 0
def zGrant : Grant := ⟨0, ⟨#[]⟩, false, 0⟩
def zTok : Tok := ⟨⟨#[]⟩, 0, [], zMac⟩
def zCmd : Cmd := ⟨0, zTok, ⟨#[]⟩, ⟨#[]⟩, 0, [], 0, 0, zGrant, 0⟩
def zAns : Ans := ⟨0, 0, [], zTok, []⟩
/-! reading -/
def sumOf (p : List UInt8) : List UInt8 := (List.range 32).map fun i => p.getD i 0
def sumS (s : St) : List UInt8 × St := (sumOf (takeG 32 s.1 s.2).1, (takeG 32 s.1 s.2).2)
theorem sumOf_len (p : List UInt8) : (sumOf p).length = 32 := by simp [sumOf]
theorem sumOf_same (p : List UInt8) (h : p.length = 32) : sumOf p = p := by
  unfold sumOf
  apply List.ext_getElem
  · simp [h]
  · intro i h1 h2
    simp [h2]
theorem sumOf_nil : sumOf [] = zMac := by
  unfold sumOf zMac
  apply List.ext_getElem
  · simp
  · intro i h1 h2
    rw [List.getElem_map, List.getElem_replicate]
    rfl
theorem takeG_alt (n : Nat) (bs : List UInt8) (why : Int) : (takeG n bs why).1 = [] ∨ (takeG n bs why).1.length = n := by
  unfold takeG
  split
  · exact .inl rfl
  · right
    rw [List.length_take]
    omega
theorem sum_codec : Codec sumS (fun p => p) (fun p => p.length = 32) where
  full := fun x rest hx => by
    unfold sumS
    rw [take_full 32 _ _ hx]
    simp only [sumOf_same x hx]
  cut := fun x k hx hk => by
    unfold sumS
    rw [take_cut 32 _ (by rw [List.length_take]; omega)]
  stuck := by
    unfold sumS
    rw [take_stuck]
  inv := fun s x rest h => by
    obtain ⟨bs, why⟩ := s
    unfold sumS at h
    simp only [Prod.mk.injEq] at h
    obtain ⟨h1, h2⟩ := h
    obtain ⟨p, hp⟩ : ∃ p, (takeG 32 bs why).1 = p := ⟨_, rfl⟩
    rw [hp] at h1
    obtain ⟨e1, e2, rfl⟩ := take_inv 32 bs why p rest (by rw [← hp, ← h2])
    rw [sumOf_same p e2] at h1
    subst h1
    exact ⟨by rw [e1], e2⟩
/-- The same under another name, where it may be. -/
theorem Codec.isoOn {α β : Type} {f : St → α × St} {e : α → List UInt8} {ok : α → Prop} (hf : Codec f e ok) (i : α → β) (j : β → α) (hij : ∀ x, ok x → j (i x) = x) (hji : ∀ y, i (j y) = y) :
    Codec (fun s => (i (f s).1, (f s).2)) (fun y => e (j y)) (fun y => ok (j y)) where
  full := fun y rest hy => by simp only [hf.full (j y) rest hy, hji]
  cut := fun y k hy hk => hf.cut (j y) k hy hk
  stuck := hf.stuck
  inv := fun s y rest h => by
    simp only [Prod.mk.injEq] at h
    have h2 := hf.inv s (f s).1 rest (by rw [← h.2])
    rw [← h.1, hij _ h2.2]
    exact h2
/-- Something else, where an error has stuck. -/
def badS {α : Type} (z : α) (f : St → α × St) (s : St) : α × St := if (f s).2.2 = 0 then f s else (z, (f s).2)
theorem Codec.bad {α : Type} {f : St → α × St} {e : α → List UInt8} {ok : α → Prop} (hf : Codec f e ok) (z : α) : Codec (badS z f) e ok where
  full := fun x rest hx => by unfold badS; rw [hf.full x rest hx]; rfl
  cut := fun x k hx hk => by
    have h := hf.cut x k hx hk
    unfold badS
    rw [h]
    rw [if_neg (by decide)]
  stuck := by
    have h := hf.stuck
    unfold badS
    rw [h]
    rw [if_neg (by decide)]
  inv := fun s x rest h => by
    unfold badS at h
    split at h
    · exact hf.inv s x rest h
    · rename_i h0
      simp only [Prod.mk.injEq] at h
      exact absurd (by rw [h.2]) h0
theorem Codec.of_eq {α : Type} {f : St → α × St} {e e' : α → List UInt8} {ok ok' : α → Prop} (hf : Codec f e ok) (he : ∀ x, e' x = e x) (hk : ∀ x, ok' x ↔ ok x) : Codec f e' ok' where
  full := fun x rest hx => by rw [he]; exact hf.full x rest ((hk x).1 hx)
  cut := fun x k hx hk' => by rw [he] at hk' ⊢; exact hf.cut x k ((hk x).1 hx) hk'
  stuck := hf.stuck
  inv := fun s x rest h => by
    obtain ⟨h1, h2⟩ := hf.inv s x rest h
    rw [he]
    exact ⟨h1, (hk x).2 h2⟩
def boolS (s : St) : Bool × St := ((countS 1 s).1 == 1, (countS 1 s).2)
theorem bool_codec : Codec boolS (fun b => num8 (b2i b)) (fun _ => True) := by
  refine ((count_codec 1 (by decide)).isoOn (fun x => x == 1) b2i (fun x hx => ?_) (fun b => by cases b <;> rfl)).of_eq (fun _ => rfl) (fun b => ?_)
  · unfold cntOk at hx
    obtain rfl | rfl : x = 0 ∨ x = 1 := by omega
    · rfl
    · rfl
  · unfold cntOk; cases b <;> simp [b2i]
def grS (s : St) : Grant × St := (⟨(pairS intS (pairS (textS 24) (pairS boolS intS)) s).1.1, (pairS intS (pairS (textS 24) (pairS boolS intS)) s).1.2.1, (pairS intS (pairS (textS 24) (pairS boolS intS)) s).1.2.2.1, (pairS intS (pairS (textS 24) (pairS boolS intS)) s).1.2.2.2⟩, (pairS intS (pairS (textS 24) (pairS boolS intS)) s).2)
def grOk (g : Grant) : Prop := intOk g.r ∧ g.p.size ≤ 24 ∧ intOk g.u
theorem gr_codec : Codec grS gB grOk :=
  ((int_codec.pair ((text_codec 24 (by decide)).pair (bool_codec.pair int_codec))).iso (fun p => (⟨p.1, p.2.1, p.2.2.1, p.2.2.2⟩ : Grant)) (fun g => (g.r, g.p, g.x, g.u)) (fun _ => rfl) (fun _ => rfl)).of_eq (fun _ => rfl) (fun g => by simp [grOk])
def tokRawS (s : St) : Tok × St := (⟨(pairS (textS 24) (pairS intS (pairS (listS 6 grS) sumS)) s).1.1, (pairS (textS 24) (pairS intS (pairS (listS 6 grS) sumS)) s).1.2.1, (pairS (textS 24) (pairS intS (pairS (listS 6 grS) sumS)) s).1.2.2.1, (pairS (textS 24) (pairS intS (pairS (listS 6 grS) sumS)) s).1.2.2.2⟩, (pairS (textS 24) (pairS intS (pairS (listS 6 grS) sumS)) s).2)
def tokOk (t : Tok) : Prop := t.ten.size ≤ 24 ∧ intOk t.id ∧ (t.gs.length ≤ 6 ∧ ∀ g ∈ t.gs, grOk g) ∧ t.mac.length = 32
theorem tokRaw_codec : Codec tokRawS tokB tokOk :=
  (((text_codec 24 (by decide)).pair (int_codec.pair ((list_codec gr_codec 6 (by decide)).pair sum_codec))).iso (fun p => (⟨p.1, p.2.1, p.2.2.1, p.2.2.2⟩ : Tok)) (fun t => (t.ten, t.id, t.gs, t.mac)) (fun _ => rfl) (fun _ => rfl)).of_eq (fun _ => rfl) (fun t => Iff.rfl)
def tokS : St → Tok × St := badS zTok tokRawS
theorem tok_codec : Codec tokS tokB tokOk := tokRaw_codec.bad zTok
def blobOk (n : Nat) (p : List UInt8) : Prop := p.length ≤ n
def cmdP : St → (Int × Tok × ByteArray × ByteArray × Int × List (List UInt8) × Int × Int × Grant × Int) × St := pairS intS (pairS tokS (pairS (textS 24) (pairS (textS 24) (pairS intS (pairS (listS 4 (blobS 256)) (pairS intS (pairS intS (pairS grS intS))))))))
def cmdS (s : St) : Cmd × St := (⟨(cmdP s).1.1, (cmdP s).1.2.1, (cmdP s).1.2.2.1, (cmdP s).1.2.2.2.1, (cmdP s).1.2.2.2.2.1, (cmdP s).1.2.2.2.2.2.1, (cmdP s).1.2.2.2.2.2.2.1, (cmdP s).1.2.2.2.2.2.2.2.1, (cmdP s).1.2.2.2.2.2.2.2.2.1, (cmdP s).1.2.2.2.2.2.2.2.2.2⟩, (cmdP s).2)
structure CmdFit (c : Cmd) : Prop where
  kind : intOk c.kind
  tok : tokOk c.tok
  st : c.st.size ≤ 24
  su : c.su.size ≤ 24
  ex : intOk c.ex
  bodies : c.bodies.length ≤ 4 ∧ ∀ x ∈ c.bodies, x.length ≤ 256
  fr : intOk c.fr
  ct : intOk c.ct
  gr : grOk c.gr
  id : intOk c.id
theorem cmd_codec : Codec cmdS cmdB CmdFit :=
  ((int_codec.pair (tok_codec.pair ((text_codec 24 (by decide)).pair ((text_codec 24 (by decide)).pair (int_codec.pair ((list_codec (blob_codec 256 (by decide)) 4 (by decide)).pair (int_codec.pair (int_codec.pair (gr_codec.pair int_codec))))))))).iso
    (fun p => (⟨p.1, p.2.1, p.2.2.1, p.2.2.2.1, p.2.2.2.2.1, p.2.2.2.2.2.1, p.2.2.2.2.2.2.1, p.2.2.2.2.2.2.2.1, p.2.2.2.2.2.2.2.2.1, p.2.2.2.2.2.2.2.2.2⟩ : Cmd)) (fun c => (c.kind, c.tok, c.st, c.su, c.ex, c.bodies, c.fr, c.ct, c.gr, c.id)) (fun _ => rfl) (fun _ => rfl)).of_eq (fun _ => rfl)
    (fun c => ⟨fun h => ⟨h.1, h.2, h.3, h.4, h.5, h.6, h.7, h.8, h.9, h.10⟩, fun ⟨h1, h2, h3, h4, h5, h6, h7, h8, h9, h10⟩ => ⟨h1, h2, h3, h4, h5, h6, h7, h8, h9, h10⟩⟩)
def shP : St → (ByteArray × ByteArray × Int × Int × Int × List UInt8) × St := pairS (textS 24) (pairS (textS 24) (pairS intS (pairS intS (pairS intS (blobS 256)))))
def shS (s : St) : Shn × St := (⟨(shP s).1.1, (shP s).1.2.1, (shP s).1.2.2.1, (shP s).1.2.2.2.1, (shP s).1.2.2.2.2.1, (shP s).1.2.2.2.2.2⟩, (shP s).2)
def shOk (s : Shn) : Prop := s.st.size ≤ 24 ∧ s.su.size ≤ 24 ∧ intOk s.ver ∧ intOk s.pos ∧ intOk s.code ∧ s.body.length ≤ 256
theorem sh_codec : Codec shS shB shOk :=
  (((text_codec 24 (by decide)).pair ((text_codec 24 (by decide)).pair (int_codec.pair (int_codec.pair (int_codec.pair (blob_codec 256 (by decide))))))).iso (fun p => (⟨p.1, p.2.1, p.2.2.1, p.2.2.2.1, p.2.2.2.2.1, p.2.2.2.2.2⟩ : Shn)) (fun s => (s.st, s.su, s.ver, s.pos, s.code, s.body)) (fun _ => rfl) (fun _ => rfl)).of_eq (fun _ => rfl) (fun _ => Iff.rfl)
def enP : St → (Int × Int × Int × Int × Int × ByteArray × ByteArray × List UInt8) × St := pairS intS (pairS intS (pairS intS (pairS intS (pairS intS (pairS (textS 24) (pairS (textS 24) sumS))))))
def enS (s : St) : Ent × St := (⟨(enP s).1.1, (enP s).1.2.1, (enP s).1.2.2.1, (enP s).1.2.2.2.1, (enP s).1.2.2.2.2.1, (enP s).1.2.2.2.2.2.1, (enP s).1.2.2.2.2.2.2.1, (enP s).1.2.2.2.2.2.2.2⟩, (enP s).2)
def enOk (e : Ent) : Prop := intOk e.no ∧ intOk e.clock ∧ intOk e.kind ∧ intOk e.code ∧ intOk e.id ∧ e.st.size ≤ 24 ∧ e.su.size ≤ 24 ∧ e.sum.length = 32
theorem en_codec : Codec enS enB enOk :=
  ((int_codec.pair (int_codec.pair (int_codec.pair (int_codec.pair (int_codec.pair ((text_codec 24 (by decide)).pair ((text_codec 24 (by decide)).pair sum_codec))))))).iso (fun p => (⟨p.1, p.2.1, p.2.2.1, p.2.2.2.1, p.2.2.2.2.1, p.2.2.2.2.2.1, p.2.2.2.2.2.2.1, p.2.2.2.2.2.2.2⟩ : Ent)) (fun e => (e.no, e.clock, e.kind, e.code, e.id, e.st, e.su, e.sum)) (fun _ => rfl) (fun _ => rfl)).of_eq (fun _ => rfl) (fun _ => Iff.rfl)
def ansP : St → (Int × Int × List Shn × Tok × List Ent) × St := pairS intS (pairS intS (pairS (listS 64 shS) (pairS tokS (listS 64 enS))))
def ansS (s : St) : Ans × St := (⟨(ansP s).1.1, (ansP s).1.2.1, (ansP s).1.2.2.1, (ansP s).1.2.2.2.1, (ansP s).1.2.2.2.2⟩, (ansP s).2)
structure AnsFit (a : Ans) : Prop where
  code : intOk a.code
  num : intOk a.num
  shown : a.shown.length ≤ 64 ∧ ∀ s ∈ a.shown, shOk s
  tok : tokOk a.tok
  ents : a.ents.length ≤ 64 ∧ ∀ e ∈ a.ents, enOk e
theorem ans_codec : Codec ansS ansB AnsFit :=
  ((int_codec.pair (int_codec.pair ((list_codec sh_codec 64 (by decide)).pair (tok_codec.pair (list_codec en_codec 64 (by decide)))))).iso (fun p => (⟨p.1, p.2.1, p.2.2.1, p.2.2.2.1, p.2.2.2.2⟩ : Ans)) (fun a => (a.code, a.num, a.shown, a.tok, a.ents)) (fun _ => rfl) (fun _ => rfl)).of_eq (fun _ => rfl)
    (fun a => ⟨fun h => ⟨h.1, h.2, h.3, h.4, h.5⟩, fun ⟨h1, h2, h3, h4, h5⟩ => ⟨h1, h2, h3, h4, h5⟩⟩)
def getC (b : List UInt8) : Cmd × Int :=
  if endS (cmdS (b, 0)).2 ≠ 0 then (zCmd, endS (cmdS (b, 0)).2) else if cmdG (cmdS (b, 0)).1 ≠ 0 then (zCmd, cmdG (cmdS (b, 0)).1) else ((cmdS (b, 0)).1, 0)
def getA (b : List UInt8) : Ans × Int :=
  if endS (ansS (b, 0)).2 ≠ 0 then (zAns, endS (ansS (b, 0)).2) else ((ansS (b, 0)).1, 0)
end Go.Proofs.YtjcpgjnogcmalaaDoor
