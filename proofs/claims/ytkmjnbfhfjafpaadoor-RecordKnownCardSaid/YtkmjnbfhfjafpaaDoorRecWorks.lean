/- The statements on records: what is too great; the chapter's record, there and back. -/
import Derived.Test.YtkmjnbfhfjafpaaDoorRecPure
import Derived.Test.YtkmjnbfhfjafpaaDoorRefGet
import Derived.Test.YtkmjnbfhfjafpaaDoorMx
import Derived.Test.YtkmjnbfhfjafpaaDoorKit
namespace Go.Proofs.YtkmjnbfhfjafpaaDoor
set_option linter.unusedVariables false
set_option linter.unusedSimpArgs false
open Go.RowKit
attribute [local go_sem high] run_mx3
/-- More than the statements go through. -/
def BigR (r : Rec) : Prop := 40 < r.sealed.length ∨ 8192 < allN r.sealed 0 ∨ 4096 < mx3 r.ten.size r.st.size r.su.size
instance (r : Rec) : Decidable (BigR r) := inferInstanceAs (Decidable (_ ∨ _ ∨ _))
def bigG (r : Rec) : Bool := decide (BigR r)
set_option maxHeartbeats 9000000 in
set_option maxRecDepth 100000 in
theorem big_any (w : World) (r : Rec) (A : Option Addr) (c : Nat) (hS : rdB.Sl w A r.sealed.length r.sealed) (hc : r.sealed.length ≤ c) (hn : r.sealed.length ≤ 140737488351232) (hm : ∀ x ∈ r.sealed, x.length ≤ 140737488351232) (ht : r.ten.size ≤ 140737488351232) (hs : r.st.size ≤ 140737488351232) (hu : r.su.size ≤ 140737488351232) :
    Calls Tryd.prog 9 #[.agg #[.string r.ten, .int .i64 r.clock, .int .i64 r.kind, .int .i64 r.code, .int .i64 r.id, .string r.st, .string r.su, .int .i64 r.slot, .int .i64 r.uses, .int .i64 r.num, .slice A r.sealed.length c]] w fun e w' => e = .returned (.bool (bigG r)) ∧ Ext w w' := by
  obtain ⟨W, hW, hE, bx⟩ := box1 w #[.string r.ten, .int .i64 r.clock, .int .i64 r.kind, .int .i64 r.code, .int .i64 r.id, .string r.st, .string r.su, .int .i64 r.slot, .int .i64 r.uses, .int .i64 r.num, .slice A r.sealed.length c] 25
  have x0 : W.cell? ⟨w.heap.size, 0, none⟩ = some (.string r.ten) := bx 0 _ rfl
  have r0 := fun (w' : World) (h : Ext W w') => h.cellk x0
  have x1 : W.cell? ⟨w.heap.size, 1, none⟩ = some (.int .i64 r.clock) := bx 1 _ rfl
  have r1 := fun (w' : World) (h : Ext W w') => h.cellk x1
  have x2 : W.cell? ⟨w.heap.size, 2, none⟩ = some (.int .i64 r.kind) := bx 2 _ rfl
  have r2 := fun (w' : World) (h : Ext W w') => h.cellk x2
  have x3 : W.cell? ⟨w.heap.size, 3, none⟩ = some (.int .i64 r.code) := bx 3 _ rfl
  have r3 := fun (w' : World) (h : Ext W w') => h.cellk x3
  have x4 : W.cell? ⟨w.heap.size, 4, none⟩ = some (.int .i64 r.id) := bx 4 _ rfl
  have r4 := fun (w' : World) (h : Ext W w') => h.cellk x4
  have x5 : W.cell? ⟨w.heap.size, 5, none⟩ = some (.string r.st) := bx 5 _ rfl
  have r5 := fun (w' : World) (h : Ext W w') => h.cellk x5
  have x6 : W.cell? ⟨w.heap.size, 6, none⟩ = some (.string r.su) := bx 6 _ rfl
  have r6 := fun (w' : World) (h : Ext W w') => h.cellk x6
  have x7 : W.cell? ⟨w.heap.size, 7, none⟩ = some (.int .i64 r.slot) := bx 7 _ rfl
  have r7 := fun (w' : World) (h : Ext W w') => h.cellk x7
  have x8 : W.cell? ⟨w.heap.size, 8, none⟩ = some (.int .i64 r.uses) := bx 8 _ rfl
  have r8 := fun (w' : World) (h : Ext W w') => h.cellk x8
  have x9 : W.cell? ⟨w.heap.size, 9, none⟩ = some (.int .i64 r.num) := bx 9 _ rfl
  have r9 := fun (w' : World) (h : Ext W w') => h.cellk x9
  have x10 : W.cell? ⟨w.heap.size, 10, none⟩ = some (.slice A r.sealed.length c) := bx 10 _ rfl
  have r10 := fun (w' : World) (h : Ext W w') => h.cellk x10
  clear bx
  have hal := all_any W A c r.sealed (hS.ext hE) hc (by omega) (fun x hx => by have := hm x hx; omega)
  obtain ⟨v, hv⟩ : ∃ v, bigG r = v := ⟨_, rfl⟩
  rw [hv]
  have hv : v = true ↔ BigR r := by rw [← hv]; unfold bigG; exact decide_eq_true_iff
  unfold BigR at hv
  generalize allN r.sealed 0 = m at *
  generalize r.sealed.length = n at *
  have hY : Ext W W := Ext.refl W
  clear hS hm
  have HV := Lib.hid hv
  clear hv
  go_enter Tryd.func9, Tryd.ntmps9
  go_upto_region 1 with fail
  rw [← hW]
  clear hW
  by_cases h1 : 40 < n
  · go_wp2_with fail
    go_ret
    exact ⟨ret_bool (HV.out.2 (by simp [h1])).symm, hE⟩
  · by_cases h2 : 8192 < m
    · go_wp2_with (go_at_call 28; (with_reducible refine hal.mono ?_); rintro e w1 ⟨rfl, hE1⟩)
      go_ret
      exact ⟨ret_bool (HV.out.2 (by simp [h2])).symm, hE.trans hE1⟩
    · by_cases h3 : 4096 < mx3 r.ten.size r.st.size r.su.size
      · go_wp2_with (go_at_call 28; (with_reducible refine hal.mono ?_); rintro e w1 ⟨rfl, hE1⟩)
        go_ret
        exact ⟨ret_bool (by rw [Bool.eq_iff_iff, HV.out]; simp [h3]), hE.trans hE1⟩
      · go_wp2_with (go_at_call 28; (with_reducible refine hal.mono ?_); rintro e w1 ⟨rfl, hE1⟩)
        go_ret
        exact ⟨ret_bool (by rw [Bool.eq_iff_iff, HV.out]; simp only [Bool.or_eq_true, decide_eq_true_eq]; omega), hE.trans hE1⟩
theorem bigR_not {r : Rec} (h : ¬ BigR r) (hi : RecInts r) : RecOk r := by
  unfold BigR at h
  rw [mx3_lt] at h
  have h1 : r.sealed.length ≤ 40 := by omega
  have h2 : allN r.sealed 0 ≤ 8192 := by omega
  exact ⟨by omega, by omega, by omega, by omega, fun x hx => by have := allN_mem r.sealed 0 (by omega) (by omega) x hx; omega, hi.1, hi.2, hi.3, hi.4, hi.5, hi.6, hi.7⟩
/-- The bytes that Put answers. -/
def putB (r : Rec) : List UInt8 := if checkG r = 0 then recB r else []
def PutQ (w : World) (r : Rec) (e : Ending) (w' : World) : Prop := ∃ A n c, e = .returned (.tuple #[.slice A n c, .int .i64 (checkG r)]) ∧ (putB r).length = n ∧ n ≤ c ∧ c ≤ maxLen ∧ Rd.u8.Sl (only w' w.heap.size w'.heap.size) A n (putB r) ∧ Ext w w'
theorem putQ_of {w w' : World} {r : Rec} {e : Ending} (h : PutP w r e w') : PutQ w r e w' := by
  obtain ⟨h1, h2, hE⟩ := h
  unfold PutQ putB
  by_cases hz : checkG r = 0
  · rw [if_pos hz, hz]
    obtain ⟨u, rfl, hO⟩ := h2 hz
    obtain ⟨A, c, rfl, h3, h4, h5⟩ := own_bytes (lo := w.heap.size) (hi := w'.heap.size) hO (Nat.le_refl _) (Nat.le_refl _)
    exact ⟨A, _, c, rfl, rfl, h3, h4, h5, hE⟩
  · rw [if_neg hz]
    rw [h1 hz]
    exact ⟨none, 0, 0, rfl, rfl, Nat.le_refl _, by decide, Rd.Sl.none _ _ none, hE⟩
theorem putq_any (w : World) (r : Rec) (hr : RecOk r) (A : Option Addr) (c : Nat) (hS : rdB.Sl w A r.sealed.length r.sealed) (hc : r.sealed.length ≤ c) :
    Calls Tryd.prog 12 #[.agg #[.string r.ten, .int .i64 r.clock, .int .i64 r.kind, .int .i64 r.code, .int .i64 r.id, .string r.st, .string r.su, .int .i64 r.slot, .int .i64 r.uses, .int .i64 r.num, .slice A r.sealed.length c]] w (PutQ w r) := (put_any w r hr A c hS hc).mono fun _ _ => putQ_of
theorem rputq_any (w : World) (r : Rec) (hr : RecOk r) (A : Option Addr) (c : Nat) (hS : rdB.Sl w A r.sealed.length r.sealed) (hc : r.sealed.length ≤ c) :
    Calls Tryd.prog 13 #[.agg #[.string r.ten, .int .i64 r.clock, .int .i64 r.kind, .int .i64 r.code, .int .i64 r.id, .string r.st, .string r.su, .int .i64 r.slot, .int .i64 r.uses, .int .i64 r.num, .slice A r.sealed.length c]] w (PutQ w r) := (rput_any w r hr A c hS hc).mono fun _ _ => putQ_of
theorem get_is {l : List UInt8} {r : Rec} {v : Int} (hg : getG l = (r, v)) {w w' : World} {e : Ending} (h : GetP w l e w') :
    ∃ A n c, e = .returned (.tuple #[.agg #[.string r.ten, .int .i64 r.clock, .int .i64 r.kind, .int .i64 r.code, .int .i64 r.id, .string r.st, .string r.su, .int .i64 r.slot, .int .i64 r.uses, .int .i64 r.num, .slice A n c], .int .i64 v]) ∧ r.sealed.length = n ∧ n ≤ c ∧ rdB.Sl (only w' w.heap.size w'.heap.size) A n r.sealed ∧ Ext w w' := by
  unfold GetP at h
  rw [hg] at h
  obtain ⟨A, c, rfl, h1, h2, h3⟩ := h
  exact ⟨A, _, c, rfl, rfl, h1, h2, h3⟩
theorem blk_u8 {w : World} {g : Nat} {t : TypeId} {cs : Array Value} {l : List UInt8} (h : Blk w g t cs) (hc : cs.toList = l.flatMap encB) : Rd.u8.Sl w (some ⟨g, 0, none⟩) l.length l :=
  ⟨rfl, fun _ => ⟨g, 0, rfl, fun i hi => ⟨_, rfl, fun j u hu => by
    have hj : j = 0 := by
      have := (List.getElem?_eq_some_iff.1 hu).1
      simp at this; exact this
    subst hj
    have h1 := flat_get (f := encB) (sz := 1) encB_len l i 0 hi (by decide)
    rw [← hc] at h1
    have h2 := h.cell (i * 1 + 0) (v := u) (by rw [← Array.getElem?_toList, h1]; exact hu)
    simpa [Rd.u8] using h2⟩⟩⟩
theorem blk_one {w : World} {g : Nat} {t : TypeId} {A : Option Addr} {n c : Nat} {p : List UInt8} (h : Blk w g t #[.slice A n c]) (hp : p.length = n) (hc : n ≤ c) (hS : Rd.u8.Sl w A n p) : rdB.Sl w (some ⟨g, 0, none⟩) 1 [p] := by
  subst hp
  refine ⟨rfl, fun _ => ⟨g, 0, rfl, fun i hi => ?_⟩⟩
  have hi0 : i = 0 := by simpa using hi
  subst hi0
  refine ⟨_, ⟨A, c, rfl, hc, hS⟩, fun j u hu => ?_⟩
  have hj : j = 0 := by
    have := (List.getElem?_eq_some_iff.1 hu).1
    simp at this; exact this
  subst hj
  have h2 := h.cell 0 (v := u) (by simpa using hu)
  simpa using h2
set_option maxHeartbeats 1000000 in
set_option maxRecDepth 100000 in
theorem laid_any (w : World) : Calls Tryd.prog 26 #[] w fun e w' => ∃ A, e = .returned (.agg #[.string laidR.ten, .int .i64 laidR.clock, .int .i64 laidR.kind, .int .i64 laidR.code, .int .i64 laidR.id, .string laidR.st, .string laidR.su, .int .i64 laidR.slot, .int .i64 laidR.uses, .int .i64 laidR.num, .slice A 1 1]) ∧ rdB.Sl w' A 1 laidR.sealed ∧ Ext w w' := by
  go_enter Tryd.func26, Tryd.ntmps26
  go_wp2_with fail
  refine bodyPost_ret (v := .agg #[.string ⟨#[97, 110, 110]⟩, .int .i64 5, .int .i64 1, .int .i64 0, .int .i64 1, .string ⟨#[108, 111, 103]⟩, .string ⟨#[98, 111, 98]⟩, .int .i64 1, .int .i64 0, .int .i64 0, .slice (some ⟨w.heap.size + 1 + 1, 0, none⟩) 1 1]) (by simp [results, Tryd.results26, go_sem]) rfl ?_
  refine ⟨_, rfl, ?_, (((Ext.refl w).alloc _).alloc _).alloc _⟩
  refine blk_one (c := 1) (t := 29) (A := some ⟨w.heap.size + 1, 0, none⟩) ?_ rfl (Nat.le_refl _) ?_
  · have h := Blk.new ((w.alloc (.cells #[.string ⟨#[97, 110, 110]⟩, .int .i64 5, .int .i64 1, .int .i64 0, .int .i64 1, .string ⟨#[108, 111, 103]⟩, .string ⟨#[98, 111, 98]⟩, .int .i64 1, .int .i64 0, .int .i64 0, .slice (some ⟨w.heap.size + 1 + 1, 0, none⟩) 1 1] 25)).alloc (.cells #[.int .u8 0] 5)) 29 #[.slice (some ⟨w.heap.size + 1, 0, none⟩) 1 1]
    simpa using h
  · refine blk_u8 (l := [0]) (t := 5) (cs := #[.int .u8 0]) (Blk.alloc ?_ _) rfl
    have h := Blk.new (w.alloc (.cells #[.string ⟨#[97, 110, 110]⟩, .int .i64 5, .int .i64 1, .int .i64 0, .int .i64 1, .string ⟨#[108, 111, 103]⟩, .string ⟨#[98, 111, 98]⟩, .int .i64 1, .int .i64 0, .int .i64 0, .slice (some ⟨w.heap.size + 1 + 1, 0, none⟩) 1 1] 25)) 5 #[.int .u8 0]
    simpa using h
theorem laid_ok : RecOk laidR := ⟨by decide, by decide, by decide, by decide, by decide, by decide, by decide, by decide, by decide, by decide, by decide, by decide⟩
theorem none_ok : RecOk noneR := ⟨by decide, by decide, by decide, by decide, (fun x hx => by cases hx), by decide, by decide, by decide, by decide, by decide, by decide, by decide⟩
theorem put_laid (w : World) (A : Option Addr) (hS : rdB.Sl w A 1 laidR.sealed) : Calls Tryd.prog 12 #[.agg #[.string laidR.ten, .int .i64 laidR.clock, .int .i64 laidR.kind, .int .i64 laidR.code, .int .i64 laidR.id, .string laidR.st, .string laidR.su, .int .i64 laidR.slot, .int .i64 laidR.uses, .int .i64 laidR.num, .slice A 1 1]] w fun e w' => ∃ A n c, e = .returned (.tuple #[.slice A n c, .int .i64 0]) ∧ (recB laidR).length = n ∧ n ≤ c ∧ Rd.u8.Sl w' A n (recB laidR) ∧ Ext w w' := by
  refine (putq_any w laidR laid_ok A 1 hS (Nat.le_refl _)).mono ?_
  rintro e w' ⟨A', n, c, rfl, h1, h2, h3, h4, h5⟩
  unfold putB at h1 h4
  rw [if_pos laid_check] at h1 h4
  exact ⟨A', n, c, by rw [laid_check], h1, h2, h4.mono only_cle, h5⟩
theorem put_none (w : World) : Calls Tryd.prog 12 #[.agg #[.string noneR.ten, .int .i64 noneR.clock, .int .i64 noneR.kind, .int .i64 noneR.code, .int .i64 noneR.id, .string noneR.st, .string noneR.su, .int .i64 noneR.slot, .int .i64 noneR.uses, .int .i64 noneR.num, .slice none 0 0]] w fun e w' => ∃ A c, e = .returned (.tuple #[.slice A 91 c, .int .i64 0]) ∧ 91 ≤ c ∧ Ext w w' := by
  refine (putq_any w noneR none_ok none 0 (Rd.Sl.none _ _ none) (Nat.le_refl _)).mono ?_
  rintro e w' ⟨A', n, c, rfl, h1, h2, h3, h4, h5⟩
  unfold putB at h1
  rw [if_pos none_check, none_len] at h1
  subst h1
  exact ⟨A', c, by rw [none_check], h2, h5⟩
theorem get_laid (w : World) (A : Option Addr) (n c : Nat) (hn : (recB laidR).length = n) (hc : n ≤ c) (hS : Rd.u8.Sl w A n (recB laidR)) : Calls Tryd.prog 20 #[.slice A n c] w fun e w' => ∃ A c, e = .returned (.tuple #[.agg #[.string laidR.ten, .int .i64 laidR.clock, .int .i64 laidR.kind, .int .i64 laidR.code, .int .i64 laidR.id, .string laidR.st, .string laidR.su, .int .i64 laidR.slot, .int .i64 laidR.uses, .int .i64 laidR.num, .slice A 1 c], .int .i64 0]) ∧ 1 ≤ c ∧ rdB.Sl w' A 1 laidR.sealed ∧ Ext w w' := by
  subst hn
  refine (get_any w A c _ hS hc ?_).mono ?_
  · have h : (recB laidR).length = 11 + 32 + 11 + 11 + 32 + 9 := by
      unfold recB
      simp only [List.length_append, txtB_len, numsB_len]
      rfl
    omega
  · intro e w' h
    obtain ⟨A', n, c', rfl, h1, h2, h3, h4⟩ := get_is (get_back laidR laid_check laid_ints) h
    subst h1
    exact ⟨A', c', rfl, h2, h3.mono only_cle, h4⟩
theorem same_laid (w : World) (A A' : Option Addr) (c c' : Nat) (hS : rdB.Sl w A 1 laidR.sealed) (hc : 1 ≤ c) (hS' : rdB.Sl w A' 1 laidR.sealed) (hc' : 1 ≤ c') : Calls Tryd.prog 18 #[.agg #[.string laidR.ten, .int .i64 laidR.clock, .int .i64 laidR.kind, .int .i64 laidR.code, .int .i64 laidR.id, .string laidR.st, .string laidR.su, .int .i64 laidR.slot, .int .i64 laidR.uses, .int .i64 laidR.num, .slice A 1 c], .agg #[.string laidR.ten, .int .i64 laidR.clock, .int .i64 laidR.kind, .int .i64 laidR.code, .int .i64 laidR.id, .string laidR.st, .string laidR.su, .int .i64 laidR.slot, .int .i64 laidR.uses, .int .i64 laidR.num, .slice A' 1 c']] w fun e w' => e = .returned (.bool true) ∧ Ext w w' := by
  have h := sameRecord_any w laidR laidR A c hS hc (by decide) (by decide) A' c' hS' hc'
  rw [recEq_refl] at h
  exact h
set_option maxHeartbeats 9000000 in
set_option maxRecDepth 100000 in
theorem works_any (w : World) : Calls Tryd.prog 10 #[] w fun e w' => e = .returned (.bool true) ∧ Ext w w' := by
  have hla := laid_any
  have hpl := put_laid
  have hpn := put_none
  have hgl := get_laid
  have hsl := same_laid
  dsimp only [laidR, noneR] at hla hpl hpn hgl hsl
  go_enter Tryd.func10, Tryd.ntmps10
  go_upto_region 4 with (first | (go_at_call 26; (with_reducible refine (hla _).mono ?_); rintro e w1 ⟨A1, rfl, hS1, hE1⟩) | (go_at_call 12; (with_reducible refine (hpl _ _ hS1).mono ?_); rintro e w2 ⟨A2, n2, c2, rfl, hn2, hc2, hS2, hE2⟩; have hgg := hgl w2 A2 n2 c2 hn2 hc2 hS2; clear hn2) | (go_at_call 20; (with_reducible refine hgg.mono ?_); rintro e w3 ⟨A3, c3, rfl, hc3, hS3, hE3⟩) | (go_at_call 12; (with_reducible refine (hpn _).mono ?_); rintro e w4 ⟨A4, c4, rfl, hc4, hE4⟩))
  have D := Blk.ext (Blk.new w3 25 #[.string ⟨#[97, 110, 110]⟩, .int .i64 5, .int .i64 1, .int .i64 0, .int .i64 1, .string ⟨#[108, 111, 103]⟩, .string ⟨#[98, 111, 98]⟩, .int .i64 1, .int .i64 0, .int .i64 0, .slice A3 1 c3]) hE4
  have ac0 := D.cell 0 (v := .string ⟨#[97, 110, 110]⟩) rfl
  have ar0 := fun (w' : World) (h : Ext w4 w') => h.cellk ac0
  have ac1 := D.cell 1 (v := .int .i64 5) rfl
  have ar1 := fun (w' : World) (h : Ext w4 w') => h.cellk ac1
  have ac2 := D.cell 2 (v := .int .i64 1) rfl
  have ar2 := fun (w' : World) (h : Ext w4 w') => h.cellk ac2
  have ac3 := D.cell 3 (v := .int .i64 0) rfl
  have ar3 := fun (w' : World) (h : Ext w4 w') => h.cellk ac3
  have ac4 := D.cell 4 (v := .int .i64 1) rfl
  have ar4 := fun (w' : World) (h : Ext w4 w') => h.cellk ac4
  have ac5 := D.cell 5 (v := .string ⟨#[108, 111, 103]⟩) rfl
  have ar5 := fun (w' : World) (h : Ext w4 w') => h.cellk ac5
  have ac6 := D.cell 6 (v := .string ⟨#[98, 111, 98]⟩) rfl
  have ar6 := fun (w' : World) (h : Ext w4 w') => h.cellk ac6
  have ac7 := D.cell 7 (v := .int .i64 1) rfl
  have ar7 := fun (w' : World) (h : Ext w4 w') => h.cellk ac7
  have ac8 := D.cell 8 (v := .int .i64 0) rfl
  have ar8 := fun (w' : World) (h : Ext w4 w') => h.cellk ac8
  have ac9 := D.cell 9 (v := .int .i64 0) rfl
  have ar9 := fun (w' : World) (h : Ext w4 w') => h.cellk ac9
  have ac10 := D.cell 10 (v := .slice A3 1 c3) rfl
  have ar10 := fun (w' : World) (h : Ext w4 w') => h.cellk ac10
  have hS4 := (hS3.ext ((Ext.refl w3).alloc _)).ext hE4
  have hE := (((hE1.trans hE2).trans hE3).trans ((Ext.refl w3).alloc _)).trans hE4
  clear hS1 hS2 hS3 hE1 hE2 hE3 hE4 hgg D
  refine wp_region_noPanic ?_
  refine tr_start (.y 0 (.y 1 (.y 2 (.y 3 (.y 4 (.y 5 (.y 6 (.y 7 (.e 8 (.e 9 (.y 10 (.y 11 (.y 12 (.y 13 (.y 14 (.y 15 (.y 16 .nil))))))))))))))))) (fun w' => Ext w4 w') (by kernel_rfl) (by kernel_rfl) (fun _ _ _ _ _ h => h) (by (repeat (first | assumption | exact Ext.refl _ | refine Ext.drew ?_ | refine Ext.alloc ?_ _ | refine Ext.drewN ?_ _ | refine Ext.trans ?_ (by assumption)))) ?_
  iterate 8 (first | (refine tr_off (a' := ?_) rfl rfl (by rfl) ?_ ?_; rotate_left 1; (· simp only [Act.put, List.setIfInBounds_toArray, List.set_cons_zero, List.set_cons_succ]; rfl)) | (refine tr_y (v := ?_) (a' := ?_) rfl rfl (by rfl) (fun w' hw' => ?_) ?_ ?_; rotate_left 2; (· go_simp; with_reducible rfl); (· simp only [Act.put, List.setIfInBounds_toArray, List.set_cons_zero, List.set_cons_succ]; rfl)))
  have hYd : Ext w4 w4.drew := by (repeat (first | assumption | exact Ext.refl _ | refine Ext.drew ?_ | refine Ext.alloc ?_ _ | refine Ext.drewN ?_ _ | refine Ext.trans ?_ (by assumption)))
  generalize w4.drew = wd at hYd ⊢
  refine tr_call (args := ?_) rfl Tryd.func26 (by kernel_rfl) rfl (by rfl) rfl rfl ?_ ?_
  rotate_left 1
  · go_simp; rfl
  (with_reducible refine (hla _).mono ?_)
  rintro e w5 ⟨A5, rfl, hS5, hE5⟩
  refine ⟨_, _, rfl, hYd.trans hE5, (by simp only [Act.put, List.setIfInBounds_toArray, List.set_cons_zero, List.set_cons_succ]; rfl), ?_⟩
  refine tr_call (args := ?_) rfl Tryd.func18 (by kernel_rfl) rfl (by rfl) rfl rfl ?_ ?_
  rotate_left 1
  · go_simp; rfl
  (with_reducible refine (hsl _ _ _ _ _ (hS4.ext (hYd.trans hE5)) hc3 hS5 (Nat.le_refl _)).mono ?_)
  rintro e w6 ⟨rfl, hE6⟩
  refine ⟨_, _, rfl, hYd.trans (hE5.trans hE6), (by simp only [Act.put, List.setIfInBounds_toArray, List.set_cons_zero, List.set_cons_succ]; rfl), ?_⟩
  iterate 7 (first | (refine tr_off (a' := ?_) rfl rfl (by rfl) ?_ ?_; rotate_left 1; (· simp only [Act.put, List.setIfInBounds_toArray, List.set_cons_zero, List.set_cons_succ]; rfl)) | (refine tr_y (v := ?_) (a' := ?_) rfl rfl (by rfl) (fun w' hw' => ?_) ?_ ?_; rotate_left 2; (· go_simp; with_reducible rfl); (· simp only [Act.put, List.setIfInBounds_toArray, List.set_cons_zero, List.set_cons_succ]; rfl)))
  refine tr_end (NoPanic.normal ?_)
  go_wp2_with fail
  go_ret
  exact ⟨rfl, hE.trans (hYd.trans (hE5.trans hE6))⟩
end Go.Proofs.YtkmjnbfhfjafpaaDoor
