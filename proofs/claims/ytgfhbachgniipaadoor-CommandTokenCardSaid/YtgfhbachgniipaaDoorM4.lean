/- Names, without the program: letters, signs, what trimming a text leaves. (and what follows) -/
import Derived.Lib.SlTrimSet
import Derived.Lib.IndexAny
import Derived.Test.YtgfhbachgniipaaDoorM1
import Derived.Test.YtgfhbachgniipaaDoorShelf
import Derived.Test.YtgfhbachgniipaaDoorM3
/-! Names, without the program: letters, signs, what trimming a text leaves. -/
namespace Go.Proofs.YtgfhbachgniipaaDoor
set_option linter.unusedVariables false
set_option linter.unusedSimpArgs false
def letters : List UInt8 := [97, 98, 99, 100, 101, 102, 103, 104, 105, 106, 107, 108, 109, 110, 111, 112, 113, 114, 115, 116, 117, 118, 119, 120, 121, 122]
def signs : List UInt8 := [97, 98, 99, 100, 101, 102, 103, 104, 105, 106, 107, 108, 109, 110, 111, 112, 113, 114, 115, 116, 117, 118, 119, 120, 121, 122, 48, 49, 50, 51, 52, 53, 54, 55, 56, 57, 45, 46]
def isLetter (b : UInt8) : Bool := decide (97 ≤ b.toNat ∧ b.toNat ≤ 122)
def isSign (b : UInt8) : Bool := isLetter b || decide (48 ≤ b.toNat ∧ b.toNat ≤ 57) || decide (b.toNat = 45) || decide (b.toNat = 46)
/-- A name. -/
def nm (l : List UInt8) : Bool := decide (1 ≤ l.length ∧ l.length ≤ 24) && isLetter (l.headD 0) && l.all isSign
theorem letters_fin : ∀ n : Fin 256, letters.contains (UInt8.ofNat n.1) = isLetter (UInt8.ofNat n.1) := by decide +kernel
theorem signs_fin : ∀ n : Fin 256, signs.contains (UInt8.ofNat n.1) = isSign (UInt8.ofNat n.1) := by decide +kernel
theorem letters_is (b : UInt8) : letters.contains b = isLetter b := by
  have h := letters_fin ⟨b.toNat, b.toNat_lt⟩
  rwa [UInt8.ofNat_toNat] at h
theorem signs_is (b : UInt8) : signs.contains b = isSign b := by
  have h := signs_fin ⟨b.toNat, b.toNat_lt⟩
  rwa [UInt8.ofNat_toNat] at h
theorem index_letters (b : UInt8) : decide (0 ≤ Lib.indexByte letters b) = isLetter b := by
  rw [← Lib.contains_iff_indexByte, letters_is]
theorem dropWhile_nil {α : Type} (p : α → Bool) : ∀ l : List α, l.dropWhile p = [] ↔ ∀ x ∈ l, p x = true
  | [] => by simp
  | a :: l => by
    rw [List.dropWhile_cons]
    by_cases h : p a = true
    · rw [if_pos h, dropWhile_nil p l]; simp [h]
    · rw [if_neg h]; simp [h]
theorem dropWhile_head {α : Type} (p : α → Bool) : ∀ (l : List α) (a : α) (r : List α), l.dropWhile p = a :: r → p a = false
  | [], a, r, h => by simp at h
  | b :: l, a, r, h => by
    rw [List.dropWhile_cons] at h
    by_cases hb : p b = true
    · rw [if_pos hb] at h; exact dropWhile_head p l a r h
    · rw [if_neg hb] at h
      injection h with h1 h2
      rw [← h1]; simpa using hb
theorem trim_nil (l : List UInt8) : (Lib.trimS l signs).isEmpty = l.all isSign := by
  rw [Bool.eq_iff_iff, List.isEmpty_iff, List.all_eq_true]
  have hs : (fun b : UInt8 => signs.contains b) = isSign := funext signs_is
  unfold Lib.trimS Lib.trimLeftS Lib.trimRightS
  rw [hs]
  constructor
  · intro h
    rw [dropWhile_nil] at h
    cases hd : l.reverse.dropWhile isSign with
    | nil =>
      rw [dropWhile_nil] at hd
      exact fun x hx => hd x (by simpa using hx)
    | cons a r =>
      have h1 := dropWhile_head _ _ _ _ hd
      rw [hd] at h
      have h2 := h a (by simp)
      rw [h1] at h2; cases h2
  · intro h
    have : l.reverse.dropWhile isSign = [] := (dropWhile_nil _ _).2 (fun x hx => h x (by simpa using hx))
    rw [this]; rfl
end Go.Proofs.YtgfhbachgniipaaDoor

/-! right.Name and its reference: what they compute. -/
namespace Go.Proofs.YtgfhbachgniipaaDoor
set_option linter.unusedVariables false
set_option linter.unusedSimpArgs false
open Go.RowKit Go.Shelf
theorem trim_any (s : ByteArray) (w : World) (hs : s.size ≤ 9223372036854775807) : Calls Tryd.prog 72 #[.string s, .string ⟨#[97, 98, 99, 100, 101, 102, 103, 104, 105, 106, 107, 108, 109, 110, 111, 112, 113, 114, 115, 116, 117, 118, 119, 120, 121, 122, 48, 49, 50, 51, 52, 53, 54, 55, 56, 57, 45, 46]⟩] w fun e w' => ∃ t : ByteArray, e = .returned (.string t) ∧ t.toList.isEmpty = s.data.toList.all isSign ∧ Ext w w' :=
  (Any.strings_Trim_laid Tryd.lays160 (by kernel_rfl) s ⟨#[97, 98, 99, 100, 101, 102, 103, 104, 105, 106, 107, 108, 109, 110, 111, 112, 113, 114, 115, 116, 117, 118, 119, 120, 121, 122, 48, 49, 50, 51, 52, 53, 54, 55, 56, 57, 45, 46]⟩ w hs (by decide) (ascii_of_all (by decide))).mono fun e w' h => ⟨_, h.1, by
    rw [ByteArray.toList_eq, ← trim_nil]; rfl, h.2⟩
theorem indexByte_any (c : Int) (w : World) : Calls Tryd.prog 71 #[.string ⟨#[97, 98, 99, 100, 101, 102, 103, 104, 105, 106, 107, 108, 109, 110, 111, 112, 113, 114, 115, 116, 117, 118, 119, 120, 121, 122]⟩, .int .u8 c] w fun e w' => ∃ i : Int, e = .returned (.int .i64 i) ∧ decide (0 ≤ i) = isLetter c.toNat.toUInt8 ∧ w = w' :=
  (Any.strings_IndexByte Tryd.lays137 _ c w).mono fun _ _ h => ⟨_, h.1, index_letters _, h.2.symm⟩
theorem head_is (s : ByteArray) (h : 0 < s.size) : (s[0].toNat : Int).toNat.toUInt8 = s.data.toList.headD 0 := by
  have h' : 0 < s.data.size := h
  have e : s.data.toList.headD 0 = s.data[0] := by
    obtain ⟨⟨l⟩⟩ := s
    cases l with
    | nil => simp at h'
    | cons a r => rfl
  rw [e]
  show UInt8.ofNat _ = _
  rw [Int.toNat_natCast]
  exact UInt8.ofNat_toNat
theorem len_is (s : ByteArray) : s.data.toList.length = s.size := by rw [Array.length_toList]; rfl
set_option maxHeartbeats 1000000 in
set_option maxRecDepth 100000 in
theorem name_any (s : ByteArray) (w : World) (hs : s.size ≤ 9223372036854775807) : Calls Tryd.prog 47 #[.string s] w fun e w' => e = .returned (.bool (nm s.data.toList)) ∧ Ext w w' := by
  by_cases h1 : 1 ≤ s.size
  · by_cases h2 : s.size ≤ 24
    · have hh := head_is s h1
      have hn : nm s.data.toList = (isLetter (s.data.toList.headD 0) && s.data.toList.all isSign) := by
        unfold nm; rw [len_is]; simp [h1, h2]
      by_cases h3 : isLetter (s.data.toList.headD 0) = true
      · have hn' : nm s.data.toList = s.data.toList.all isSign := by rw [hn, h3]; rfl
        rw [hn']
        rw [← hh] at h3
        have H3 := Lib.hid h3
        clear hn hn' hh h3
        go_enter Tryd.func47, Tryd.ntmps47
        go_wp2_with (first | (go_at_call 71; refine (indexByte_any _ _).mono ?_; rintro e w' ⟨i, rfl, hi, rfl⟩; rw [H3.out] at hi; have hi' := of_decide_eq_true hi; clear hi) | (go_at_call 72; refine (trim_any _ _ hs).mono ?_; rintro e w' ⟨t, rfl, ht, hb⟩))
        go_ret
        exact ⟨by simp, hb⟩
      · have hn' : nm s.data.toList = false := by rw [hn, eq_false_of_ne_true h3]; rfl
        rw [hn']
        rw [← hh] at h3
        have H3 := Lib.hid h3
        clear hn hn' hh h3
        go_enter Tryd.func47, Tryd.ntmps47
        go_wp2_with (first | (go_at_call 71; refine (indexByte_any _ _).mono ?_; rintro e w' ⟨i, rfl, hi, rfl⟩; have hi' : ¬ 0 ≤ i := fun h => H3.out (hi ▸ decide_eq_true h); clear hi) | (go_at_call 72; refine (trim_any _ _ hs).mono ?_; rintro e w' ⟨t, rfl, ht, hb⟩))
        go_ret
        exact ⟨rfl, Ext.refl _⟩
    · have hn' : nm s.data.toList = false := by unfold nm; rw [len_is]; simp [h2]
      rw [hn']
      go_enter Tryd.func47, Tryd.ntmps47
      go_wp2
      go_ret
      exact ⟨rfl, Ext.refl _⟩
  · have hn' : nm s.data.toList = false := by unfold nm; rw [len_is]; simp [h1]
    rw [hn']
    go_enter Tryd.func47, Tryd.ntmps47
    go_wp2
    go_ret
    exact ⟨rfl, Ext.refl _⟩
/-- The reference's loop: byte by byte. -/
theorem all_take (s : ByteArray) (k : Nat) (h : k < s.size) : (s.data.toList.take (k + 1)).all isSign = ((s.data.toList.take k).all isSign && isSign s[k]) := by
  have h' : k < s.data.toList.length := by rw [len_is]; exact h
  rw [List.take_succ_eq_append_getElem h', List.all_append]
  simp only [List.all_cons, List.all_nil, Bool.and_true, Array.getElem_toList]
  rfl
def letterI (c : Int) : Bool := decide (97 ≤ c ∧ c ≤ 122)
theorem letterI_nat (b : UInt8) : letterI (b.toNat : Int) = isLetter b := by
  unfold letterI isLetter; rw [Bool.eq_iff_iff]; simp; omega
theorem isSign_no (b : UInt8) (h : letterI (b.toNat : Int) = false) (h1 : (b.toNat : Int) < 48 ∨ 57 < (b.toNat : Int)) (h2 : ¬ (b.toNat : Int) = 45) (h3 : ¬ (b.toNat : Int) = 46) : isSign b = false := by
  unfold isSign; rw [← letterI_nat, h]; simp; omega
theorem isSign_letter (b : UInt8) (h : letterI (b.toNat : Int) = true) : isSign b = true := by
  unfold isSign; rw [← letterI_nat, h]; rfl
theorem isSign_digit (b : UInt8) (h1 : 48 ≤ (b.toNat : Int)) (h2 : (b.toNat : Int) ≤ 57) : isSign b = true := by
  unfold isSign; simp; omega
theorem isSign_other (b : UInt8) (h1 : (b.toNat : Int) = 45 ∨ (b.toNat : Int) = 46) : isSign b = true := by
  unfold isSign; simp; omega
theorem nm_no (s : ByteArray) (k : Nat) (hk : k < s.size) (h : isSign s[k] = false) : nm s.data.toList = false := by
  unfold nm
  have : s.data.toList.all isSign = false := by
    rw [List.all_eq_false]
    exact ⟨s[k], by rw [show s[k] = s.data[k] from rfl]; simp, by rw [h]; simp⟩
  rw [this]; simp
theorem nm_head (s : ByteArray) (h : 0 < s.size) (hl : letterI (s[0].toNat : Int) = false) : nm s.data.toList = false := by
  unfold nm
  have := head_is s h
  rw [Int.toNat_natCast] at this
  rw [letterI_nat] at hl
  have h2 : s[0].toNat.toUInt8 = s[0] := UInt8.ofNat_toNat
  rw [← this, h2, hl]; simp
theorem nm_yes (s : ByteArray) (h : 0 < s.size) (h2 : s.size ≤ 24) (hl : letterI (s[0].toNat : Int) = true) (ha : (s.data.toList.take s.size).all isSign = true) : nm s.data.toList = true := by
  unfold nm
  have := head_is s h
  rw [Int.toNat_natCast] at this
  rw [letterI_nat] at hl
  have h3 : s[0].toNat.toUInt8 = s[0] := UInt8.ofNat_toNat
  rw [List.take_of_length_le (by rw [len_is]; omega)] at ha
  rw [← this, h3, hl, ha, len_is]; simp; omega
theorem nm_size (s : ByteArray) (h : ¬ (1 ≤ s.size ∧ s.size ≤ 24)) : nm s.data.toList = false := by
  unfold nm; rw [len_is]; simp [h]
end Go.Proofs.YtgfhbachgniipaaDoor

/-! What is wrong with a grant. -/
namespace Go.Proofs.YtgfhbachgniipaaDoor
set_option linter.unusedVariables false
set_option linter.unusedSimpArgs false
open Go.RowKit
open Go.Shelf
def prefd (p : ByteArray) : Bool := p.toList.isEmpty || nm p.data.toList
def okG (r : Int) (p : ByteArray) (x : Bool) (u : Int) : Bool := decide (1 ≤ r ∧ r ≤ 127 ∧ 0 ≤ u ∧ u ≤ 1099511627776) && !(x && p.toList.isEmpty)
def checkG (r : Int) (p : ByteArray) (x : Bool) (u : Int) : Int := if okG r p x u = true then (if prefd p = true then 0 else 10) else 1
set_option maxHeartbeats 1000000 in
set_option maxRecDepth 100000 in
theorem prefixed_any (p : ByteArray) (w : World) (hs : p.size ≤ 9223372036854775807) : Calls Tryd.prog 51 #[.string p] w fun e w' => e = .returned (.bool (prefd p)) ∧ Ext w w' := by
  by_cases h : p.toList.isEmpty = true
  · have e : prefd p = true := by unfold prefd; rw [h]; rfl
    rw [e]
    clear e
    go_enter Tryd.func51, Tryd.ntmps51
    go_wp2
    go_ret
    exact ⟨rfl, Ext.refl _⟩
  · have h' := eq_false_of_ne_true h
    have e : prefd p = nm p.data.toList := by unfold prefd; rw [h']; rfl
    rw [e]
    clear e h
    go_enter Tryd.func51, Tryd.ntmps51
    go_wp2_with (go_at_call 47; refine (name_any _ _ hs).mono ?_; rintro e w' ⟨rfl, hb⟩)
    go_ret
    exact ⟨rfl, hb⟩
set_option maxHeartbeats 1000000 in
set_option maxRecDepth 100000 in
theorem check_any (r : Int) (p : ByteArray) (x : Bool) (u : Int) (w : World) (hs : p.size ≤ 9223372036854775807) : Calls Tryd.prog 22 #[.agg #[.int .i64 r, .string p, .bool x, .int .i64 u]] w fun e w' => e = .returned (.int .i64 (checkG r p x u)) ∧ Ext w w' := by
  by_cases ho : okG r p x u = true
  · by_cases hp : prefd p = true
    · have e : checkG r p x u = 0 := by unfold checkG; rw [if_pos ho, if_pos hp]
      rw [e]
      simp only [okG, Bool.and_eq_true, decide_eq_true_eq, Bool.not_eq_true', Bool.and_eq_false_iff] at ho
      obtain ⟨⟨h1, h2, h3, h4⟩, h5⟩ := ho
      have HP := Lib.hid hp
      clear e hp
      rcases h5 with rfl | h5
      all_goals
        go_enter Tryd.func22, Tryd.ntmps22
        go_wp2_with (go_at_call 51; refine (prefixed_any _ _ hs).mono ?_; rw [HP.out]; rintro e w' ⟨rfl, hb⟩)
        all_goals (go_ret; exact ⟨rfl, by (repeat (first | assumption | exact Ext.refl _ | refine Ext.drew ?_ | refine Ext.alloc ?_ _ | refine Ext.drewN ?_ _ | refine Ext.trans ?_ (by assumption)))⟩)
    · have e : checkG r p x u = 10 := by unfold checkG; rw [if_pos ho, if_neg hp]
      rw [e]
      simp only [okG, Bool.and_eq_true, decide_eq_true_eq, Bool.not_eq_true', Bool.and_eq_false_iff] at ho
      obtain ⟨⟨h1, h2, h3, h4⟩, h5⟩ := ho
      have HP := Lib.hid (eq_false_of_ne_true hp)
      clear e hp
      rcases h5 with rfl | h5
      all_goals
        go_enter Tryd.func22, Tryd.ntmps22
        go_wp2_with (go_at_call 51; refine (prefixed_any _ _ hs).mono ?_; rw [HP.out]; rintro e w' ⟨rfl, hb⟩)
        all_goals (go_ret; exact ⟨rfl, by (repeat (first | assumption | exact Ext.refl _ | refine Ext.drew ?_ | refine Ext.alloc ?_ _ | refine Ext.drewN ?_ _ | refine Ext.trans ?_ (by assumption)))⟩)
  · have e : checkG r p x u = 1 := by unfold checkG; rw [if_neg ho]
    rw [e]
    clear e
    have h' : (r < 1 ∨ 127 < r ∨ u < 0 ∨ 1099511627776 < u) ∨ ((1 ≤ r ∧ r ≤ 127 ∧ 0 ≤ u ∧ u ≤ 1099511627776) ∧ x = true ∧ p.toList.isEmpty = true) := by
      simp only [okG, Bool.and_eq_true, decide_eq_true_eq, Bool.not_eq_true', Bool.and_eq_false_iff] at ho
      by_cases h : 1 ≤ r ∧ r ≤ 127 ∧ 0 ≤ u ∧ u ≤ 1099511627776
      · right
        refine ⟨h, ?_⟩
        have h2 := fun h3 => ho ⟨h, h3⟩
        cases x with
        | false => exact absurd (.inl rfl) h2
        | true =>
          refine ⟨rfl, ?_⟩
          cases h4 : p.toList.isEmpty with
          | false => exact absurd (.inr h4) h2
          | true => rfl
      · left; omega
    clear ho
    rcases h' with h | ⟨⟨h1, h2, h3, h4⟩, rfl, h5⟩
    · go_enter Tryd.func22, Tryd.ntmps22
      go_wp2_with fail
      all_goals (first | (exfalso; omega) | (go_ret; exact ⟨rfl, by (repeat (first | assumption | exact Ext.refl _ | refine Ext.drew ?_ | refine Ext.alloc ?_ _ | refine Ext.drewN ?_ _ | refine Ext.trans ?_ (by assumption)))⟩))
    · go_enter Tryd.func22, Tryd.ntmps22
      go_wp2
      go_ret
      exact ⟨rfl, by (repeat (first | assumption | exact Ext.refl _ | refine Ext.drew ?_ | refine Ext.alloc ?_ _ | refine Ext.drewN ?_ _ | refine Ext.trans ?_ (by assumption)))⟩
end Go.Proofs.YtgfhbachgniipaaDoor

/-! Commands and answers, without the program: their shape, what is wrong with one, its bytes. -/
namespace Go.Proofs.YtgfhbachgniipaaDoor
set_option linter.unusedVariables false
set_option linter.unusedSimpArgs false
open Go.RowKit
structure Grant where
  r : Int
  p : ByteArray
  x : Bool
  u : Int
structure Tok where
  ten : ByteArray
  id : Int
  gs : List Grant
  mac : List UInt8
structure Cmd where
  kind : Int
  tok : Tok
  st : ByteArray
  su : ByteArray
  ex : Int
  bodies : List (List UInt8)
  fr : Int
  ct : Int
  gr : Grant
  id : Int
structure Shn where
  st : ByteArray
  su : ByteArray
  ver : Int
  pos : Int
  code : Int
  body : List UInt8
structure Ent where
  no : Int
  clock : Int
  kind : Int
  code : Int
  id : Int
  st : ByteArray
  su : ByteArray
  sum : List UInt8
structure Ans where
  code : Int
  num : Int
  shown : List Shn
  tok : Tok
  ents : List Ent
def b2i (b : Bool) : Int := if b = true then 1 else 0
def gB (g : Grant) : List UInt8 := num8 g.r ++ (txtB g.p ++ (num8 (b2i g.x) ++ num8 g.u))
def gsB (l : List Grant) : List UInt8 := l.flatMap gB
def tokB (t : Tok) : List UInt8 := txtB t.ten ++ (num8 t.id ++ ((num8 t.gs.length ++ t.gs.flatMap gB) ++ t.mac))
def blobB (p : List UInt8) : List UInt8 := num8 p.length ++ p
def cmdB (c : Cmd) : List UInt8 := num8 c.kind ++ (tokB c.tok ++ (txtB c.st ++ (txtB c.su ++ (num8 c.ex ++ ((num8 c.bodies.length ++ c.bodies.flatMap blobB) ++ (num8 c.fr ++ (num8 c.ct ++ (gB c.gr ++ num8 c.id))))))))
def shB (s : Shn) : List UInt8 := txtB s.st ++ (txtB s.su ++ (num8 s.ver ++ (num8 s.pos ++ (num8 s.code ++ blobB s.body))))
def enB (e : Ent) : List UInt8 := num8 e.no ++ (num8 e.clock ++ (num8 e.kind ++ (num8 e.code ++ (num8 e.id ++ (txtB e.st ++ (txtB e.su ++ e.sum))))))
def ansB (a : Ans) : List UInt8 := num8 a.code ++ (num8 a.num ++ ((num8 a.shown.length ++ a.shown.flatMap shB) ++ (tokB a.tok ++ (num8 a.ents.length ++ a.ents.flatMap enB))))
/-! what is wrong -/
def kindF (k : Int) : List Nat := if k = 1 then [0, 1, 2, 3] else if k = 2 then [0, 4, 5] else if k = 3 then [4, 5] else if k = 4 then [1] else if k = 5 then [6] else if k = 6 then [7] else if k = 7 then [4, 5] else if k = 8 then [4] else []
def hasF (k : Int) (f : Nat) : Bool := (kindF k).contains f
def namedG (s : ByteArray) (must : Bool) : Bool := (!must && s.toList.isEmpty) || nm s.data.toList
def oddG (must : Bool) (n least most : Int) : Bool := must && decide (n < least ∨ most < n)
def longS (s : ByteArray) : Bool := decide (24 < s.size)
def longT (t : Tok) : Bool := longS t.ten || t.gs.any fun g => longS g.p
def longB (p : List UInt8) : Bool := decide (256 < p.length)
def zeroG (g : Grant) : Bool := decide (g.r = 0) && (g.p.toList.isEmpty && (!g.x && decide (g.u = 0)))
/-- The fields that are not zero. -/
def giveG (c : Cmd) : List Bool := [!c.st.toList.isEmpty, !c.su.toList.isEmpty, decide (c.ex ≠ 0), decide (0 < c.bodies.length), decide (c.fr ≠ 0), decide (c.ct ≠ 0), !zeroG c.gr, decide (c.id ≠ 0)]
def foreignG (c : Cmd) : Bool := (List.range 8).any fun i => (giveG c).getD i false && !hasF c.kind i
def cmdG (c : Cmd) : Int :=
  if c.kind < 1 ∨ 8 < c.kind then 2
  else if (!namedG c.st (hasF c.kind 0) || !namedG c.su (hasF c.kind 1)) = true then 10
  else if (oddG (hasF c.kind 2) c.ex (-1) 1000 || (oddG (hasF c.kind 4) c.fr 1 1099511627776 || (oddG (hasF c.kind 5) c.ct 0 64 || (oddG (hasF c.kind 7) c.id 1 1099511627776 || (hasF c.kind 3 && decide (c.bodies.length = 0)))))) = true then 1
  else if 4 < c.bodies.length ∨ 6 < c.tok.gs.length then 3
  else if (c.bodies.any longB || longT c.tok) = true then 5
  else if hasF c.kind 6 = true ∧ checkG c.gr.r c.gr.p c.gr.x c.gr.u ≠ 0 then checkG c.gr.r c.gr.p c.gr.x c.gr.u
  else if foreignG c = true then 11 else 0
def longH (s : Shn) : Bool := longS s.st || (longS s.su || longB s.body)
def longE (e : Ent) : Bool := longS e.st || longS e.su
def ansG (a : Ans) : Int :=
  if 64 < a.shown.length ∨ 64 < a.ents.length ∨ 6 < a.tok.gs.length then 3
  else if (longT a.tok || (a.shown.any longH || a.ents.any longE)) = true then 5 else 0
/-! zero values -/
def zMac : List UInt8 := List.replicate 32 0
def zGrant : Grant := ⟨0, ⟨#[]⟩, false, 0⟩
def zTok : Tok := ⟨⟨#[]⟩, 0, [], zMac⟩
def zCmd : Cmd := ⟨0, zTok, ⟨#[]⟩, ⟨#[]⟩, 0, [], 0, 0, zGrant, 0⟩
def zAns : Ans := ⟨0, 0, [], zTok, []⟩
/-! reading -/
def sumOf (p : List UInt8) : List UInt8 := (List.range 32).map fun i => p.getD i 0
def sumS (s : St) : List UInt8 × St := (sumOf (takeG 32 s.1 s.2).1, (takeG 32 s.1 s.2).2)
theorem sumOf_len (p : List UInt8) : (sumOf p).length = 32 := by simp [sumOf]
theorem sumOf_same (p : List UInt8) (h : p.length = 32) : sumOf p = p := by
  unfold sumOf
  apply List.ext_getElem
  · simp [h]
  · intro i h1 h2
    simp [h2]
theorem sumOf_nil : sumOf [] = zMac := by
  unfold sumOf zMac
  apply List.ext_getElem
  · simp
  · intro i h1 h2
    rw [List.getElem_map, List.getElem_replicate]
    rfl
theorem takeG_alt (n : Nat) (bs : List UInt8) (why : Int) : (takeG n bs why).1 = [] ∨ (takeG n bs why).1.length = n := by
  unfold takeG
  split
  · exact .inl rfl
  · right
    rw [List.length_take]
    omega
theorem sum_codec : Codec sumS (fun p => p) (fun p => p.length = 32) where
  full := fun x rest hx => by
    unfold sumS
    rw [take_full 32 _ _ hx]
    simp only [sumOf_same x hx]
  cut := fun x k hx hk => by
    unfold sumS
    rw [take_cut 32 _ (by rw [List.length_take]; omega)]
  stuck := by
    unfold sumS
    rw [take_stuck]
  inv := fun s x rest h => by
    obtain ⟨bs, why⟩ := s
    unfold sumS at h
    simp only [Prod.mk.injEq] at h
    obtain ⟨h1, h2⟩ := h
    obtain ⟨p, hp⟩ : ∃ p, (takeG 32 bs why).1 = p := ⟨_, rfl⟩
    rw [hp] at h1
    obtain ⟨e1, e2, rfl⟩ := take_inv 32 bs why p rest (by rw [← hp, ← h2])
    rw [sumOf_same p e2] at h1
    subst h1
    exact ⟨by rw [e1], e2⟩
/-- The same under another name, where it may be. -/
theorem Codec.isoOn {α β : Type} {f : St → α × St} {e : α → List UInt8} {ok : α → Prop} (hf : Codec f e ok) (i : α → β) (j : β → α) (hij : ∀ x, ok x → j (i x) = x) (hji : ∀ y, i (j y) = y) :
    Codec (fun s => (i (f s).1, (f s).2)) (fun y => e (j y)) (fun y => ok (j y)) where
  full := fun y rest hy => by simp only [hf.full (j y) rest hy, hji]
  cut := fun y k hy hk => hf.cut (j y) k hy hk
  stuck := hf.stuck
  inv := fun s y rest h => by
    simp only [Prod.mk.injEq] at h
    have h2 := hf.inv s (f s).1 rest (by rw [← h.2])
    rw [← h.1, hij _ h2.2]
    exact h2
/-- Something else, where an error has stuck. -/
def badS {α : Type} (z : α) (f : St → α × St) (s : St) : α × St := if (f s).2.2 = 0 then f s else (z, (f s).2)
theorem Codec.bad {α : Type} {f : St → α × St} {e : α → List UInt8} {ok : α → Prop} (hf : Codec f e ok) (z : α) : Codec (badS z f) e ok where
  full := fun x rest hx => by unfold badS; rw [hf.full x rest hx]; rfl
  cut := fun x k hx hk => by
    have h := hf.cut x k hx hk
    unfold badS
    rw [h]
    rw [if_neg (by decide)]
  stuck := by
    have h := hf.stuck
    unfold badS
    rw [h]
    rw [if_neg (by decide)]
  inv := fun s x rest h => by
    unfold badS at h
    split at h
    · exact hf.inv s x rest h
    · rename_i h0
      simp only [Prod.mk.injEq] at h
      exact absurd (by rw [h.2]) h0
theorem Codec.of_eq {α : Type} {f : St → α × St} {e e' : α → List UInt8} {ok ok' : α → Prop} (hf : Codec f e ok) (he : ∀ x, e' x = e x) (hk : ∀ x, ok' x ↔ ok x) : Codec f e' ok' where
  full := fun x rest hx => by rw [he]; exact hf.full x rest ((hk x).1 hx)
  cut := fun x k hx hk' => by rw [he] at hk' ⊢; exact hf.cut x k ((hk x).1 hx) hk'
  stuck := hf.stuck
  inv := fun s x rest h => by
    obtain ⟨h1, h2⟩ := hf.inv s x rest h
    rw [he]
    exact ⟨h1, (hk x).2 h2⟩
def boolS (s : St) : Bool × St := ((countS 1 s).1 == 1, (countS 1 s).2)
theorem bool_codec : Codec boolS (fun b => num8 (b2i b)) (fun _ => True) := by
  refine ((count_codec 1 (by decide)).isoOn (fun x => x == 1) b2i (fun x hx => ?_) (fun b => by cases b <;> rfl)).of_eq (fun _ => rfl) (fun b => ?_)
  · unfold cntOk at hx
    obtain rfl | rfl : x = 0 ∨ x = 1 := by omega
    · rfl
    · rfl
  · unfold cntOk; cases b <;> simp [b2i]
def grS (s : St) : Grant × St := (⟨(pairS intS (pairS (textS 24) (pairS boolS intS)) s).1.1, (pairS intS (pairS (textS 24) (pairS boolS intS)) s).1.2.1, (pairS intS (pairS (textS 24) (pairS boolS intS)) s).1.2.2.1, (pairS intS (pairS (textS 24) (pairS boolS intS)) s).1.2.2.2⟩, (pairS intS (pairS (textS 24) (pairS boolS intS)) s).2)
def grOk (g : Grant) : Prop := intOk g.r ∧ g.p.size ≤ 24 ∧ intOk g.u
theorem gr_codec : Codec grS gB grOk :=
  ((int_codec.pair ((text_codec 24 (by decide)).pair (bool_codec.pair int_codec))).iso (fun p => (⟨p.1, p.2.1, p.2.2.1, p.2.2.2⟩ : Grant)) (fun g => (g.r, g.p, g.x, g.u)) (fun _ => rfl) (fun _ => rfl)).of_eq (fun _ => rfl) (fun g => by simp [grOk])
def tokRawS (s : St) : Tok × St := (⟨(pairS (textS 24) (pairS intS (pairS (listS 6 grS) sumS)) s).1.1, (pairS (textS 24) (pairS intS (pairS (listS 6 grS) sumS)) s).1.2.1, (pairS (textS 24) (pairS intS (pairS (listS 6 grS) sumS)) s).1.2.2.1, (pairS (textS 24) (pairS intS (pairS (listS 6 grS) sumS)) s).1.2.2.2⟩, (pairS (textS 24) (pairS intS (pairS (listS 6 grS) sumS)) s).2)
def tokOk (t : Tok) : Prop := t.ten.size ≤ 24 ∧ intOk t.id ∧ (t.gs.length ≤ 6 ∧ ∀ g ∈ t.gs, grOk g) ∧ t.mac.length = 32
theorem tokRaw_codec : Codec tokRawS tokB tokOk :=
  (((text_codec 24 (by decide)).pair (int_codec.pair ((list_codec gr_codec 6 (by decide)).pair sum_codec))).iso (fun p => (⟨p.1, p.2.1, p.2.2.1, p.2.2.2⟩ : Tok)) (fun t => (t.ten, t.id, t.gs, t.mac)) (fun _ => rfl) (fun _ => rfl)).of_eq (fun _ => rfl) (fun t => Iff.rfl)
def tokS : St → Tok × St := badS zTok tokRawS
theorem tok_codec : Codec tokS tokB tokOk := tokRaw_codec.bad zTok
def blobOk (n : Nat) (p : List UInt8) : Prop := p.length ≤ n
def cmdP : St → (Int × Tok × ByteArray × ByteArray × Int × List (List UInt8) × Int × Int × Grant × Int) × St := pairS intS (pairS tokS (pairS (textS 24) (pairS (textS 24) (pairS intS (pairS (listS 4 (blobS 256)) (pairS intS (pairS intS (pairS grS intS))))))))
def cmdS (s : St) : Cmd × St := (⟨(cmdP s).1.1, (cmdP s).1.2.1, (cmdP s).1.2.2.1, (cmdP s).1.2.2.2.1, (cmdP s).1.2.2.2.2.1, (cmdP s).1.2.2.2.2.2.1, (cmdP s).1.2.2.2.2.2.2.1, (cmdP s).1.2.2.2.2.2.2.2.1, (cmdP s).1.2.2.2.2.2.2.2.2.1, (cmdP s).1.2.2.2.2.2.2.2.2.2⟩, (cmdP s).2)
structure CmdFit (c : Cmd) : Prop where
  kind : intOk c.kind
  tok : tokOk c.tok
  st : c.st.size ≤ 24
  su : c.su.size ≤ 24
  ex : intOk c.ex
  bodies : c.bodies.length ≤ 4 ∧ ∀ x ∈ c.bodies, x.length ≤ 256
  fr : intOk c.fr
  ct : intOk c.ct
  gr : grOk c.gr
  id : intOk c.id
theorem cmd_codec : Codec cmdS cmdB CmdFit :=
  ((int_codec.pair (tok_codec.pair ((text_codec 24 (by decide)).pair ((text_codec 24 (by decide)).pair (int_codec.pair ((list_codec (blob_codec 256 (by decide)) 4 (by decide)).pair (int_codec.pair (int_codec.pair (gr_codec.pair int_codec))))))))).iso
    (fun p => (⟨p.1, p.2.1, p.2.2.1, p.2.2.2.1, p.2.2.2.2.1, p.2.2.2.2.2.1, p.2.2.2.2.2.2.1, p.2.2.2.2.2.2.2.1, p.2.2.2.2.2.2.2.2.1, p.2.2.2.2.2.2.2.2.2⟩ : Cmd)) (fun c => (c.kind, c.tok, c.st, c.su, c.ex, c.bodies, c.fr, c.ct, c.gr, c.id)) (fun _ => rfl) (fun _ => rfl)).of_eq (fun _ => rfl)
    (fun c => ⟨fun h => ⟨h.1, h.2, h.3, h.4, h.5, h.6, h.7, h.8, h.9, h.10⟩, fun ⟨h1, h2, h3, h4, h5, h6, h7, h8, h9, h10⟩ => ⟨h1, h2, h3, h4, h5, h6, h7, h8, h9, h10⟩⟩)
def shP : St → (ByteArray × ByteArray × Int × Int × Int × List UInt8) × St := pairS (textS 24) (pairS (textS 24) (pairS intS (pairS intS (pairS intS (blobS 256)))))
def shS (s : St) : Shn × St := (⟨(shP s).1.1, (shP s).1.2.1, (shP s).1.2.2.1, (shP s).1.2.2.2.1, (shP s).1.2.2.2.2.1, (shP s).1.2.2.2.2.2⟩, (shP s).2)
def shOk (s : Shn) : Prop := s.st.size ≤ 24 ∧ s.su.size ≤ 24 ∧ intOk s.ver ∧ intOk s.pos ∧ intOk s.code ∧ s.body.length ≤ 256
theorem sh_codec : Codec shS shB shOk :=
  (((text_codec 24 (by decide)).pair ((text_codec 24 (by decide)).pair (int_codec.pair (int_codec.pair (int_codec.pair (blob_codec 256 (by decide))))))).iso (fun p => (⟨p.1, p.2.1, p.2.2.1, p.2.2.2.1, p.2.2.2.2.1, p.2.2.2.2.2⟩ : Shn)) (fun s => (s.st, s.su, s.ver, s.pos, s.code, s.body)) (fun _ => rfl) (fun _ => rfl)).of_eq (fun _ => rfl) (fun _ => Iff.rfl)
def enP : St → (Int × Int × Int × Int × Int × ByteArray × ByteArray × List UInt8) × St := pairS intS (pairS intS (pairS intS (pairS intS (pairS intS (pairS (textS 24) (pairS (textS 24) sumS))))))
def enS (s : St) : Ent × St := (⟨(enP s).1.1, (enP s).1.2.1, (enP s).1.2.2.1, (enP s).1.2.2.2.1, (enP s).1.2.2.2.2.1, (enP s).1.2.2.2.2.2.1, (enP s).1.2.2.2.2.2.2.1, (enP s).1.2.2.2.2.2.2.2⟩, (enP s).2)
def enOk (e : Ent) : Prop := intOk e.no ∧ intOk e.clock ∧ intOk e.kind ∧ intOk e.code ∧ intOk e.id ∧ e.st.size ≤ 24 ∧ e.su.size ≤ 24 ∧ e.sum.length = 32
theorem en_codec : Codec enS enB enOk :=
  ((int_codec.pair (int_codec.pair (int_codec.pair (int_codec.pair (int_codec.pair ((text_codec 24 (by decide)).pair ((text_codec 24 (by decide)).pair sum_codec))))))).iso (fun p => (⟨p.1, p.2.1, p.2.2.1, p.2.2.2.1, p.2.2.2.2.1, p.2.2.2.2.2.1, p.2.2.2.2.2.2.1, p.2.2.2.2.2.2.2⟩ : Ent)) (fun e => (e.no, e.clock, e.kind, e.code, e.id, e.st, e.su, e.sum)) (fun _ => rfl) (fun _ => rfl)).of_eq (fun _ => rfl) (fun _ => Iff.rfl)
def ansP : St → (Int × Int × List Shn × Tok × List Ent) × St := pairS intS (pairS intS (pairS (listS 64 shS) (pairS tokS (listS 64 enS))))
def ansS (s : St) : Ans × St := (⟨(ansP s).1.1, (ansP s).1.2.1, (ansP s).1.2.2.1, (ansP s).1.2.2.2.1, (ansP s).1.2.2.2.2⟩, (ansP s).2)
structure AnsFit (a : Ans) : Prop where
  code : intOk a.code
  num : intOk a.num
  shown : a.shown.length ≤ 64 ∧ ∀ s ∈ a.shown, shOk s
  tok : tokOk a.tok
  ents : a.ents.length ≤ 64 ∧ ∀ e ∈ a.ents, enOk e
theorem ans_codec : Codec ansS ansB AnsFit :=
  ((int_codec.pair (int_codec.pair ((list_codec sh_codec 64 (by decide)).pair (tok_codec.pair (list_codec en_codec 64 (by decide)))))).iso (fun p => (⟨p.1, p.2.1, p.2.2.1, p.2.2.2.1, p.2.2.2.2⟩ : Ans)) (fun a => (a.code, a.num, a.shown, a.tok, a.ents)) (fun _ => rfl) (fun _ => rfl)).of_eq (fun _ => rfl)
    (fun a => ⟨fun h => ⟨h.1, h.2, h.3, h.4, h.5⟩, fun ⟨h1, h2, h3, h4, h5⟩ => ⟨h1, h2, h3, h4, h5⟩⟩)
def getC (b : List UInt8) : Cmd × Int :=
  if endS (cmdS (b, 0)).2 ≠ 0 then (zCmd, endS (cmdS (b, 0)).2) else if cmdG (cmdS (b, 0)).1 ≠ 0 then (zCmd, cmdG (cmdS (b, 0)).1) else ((cmdS (b, 0)).1, 0)
def getA (b : List UInt8) : Ans × Int :=
  if endS (ansS (b, 0)).2 ≠ 0 then (zAns, endS (ansS (b, 0)).2) else ((ansS (b, 0)).1, 0)
end Go.Proofs.YtgfhbachgniipaaDoor
