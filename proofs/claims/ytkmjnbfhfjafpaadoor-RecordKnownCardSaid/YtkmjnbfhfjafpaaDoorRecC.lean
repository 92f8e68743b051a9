/- Records: long rows. -/
import Derived.Test.YtkmjnbfhfjafpaaDoorRecB
namespace Go.Proofs.YtkmjnbfhfjafpaaDoor
set_option linter.unusedVariables false
set_option linter.unusedSimpArgs false
open Go.RowKit
open Go.Shelf
def longB (x : List UInt8) : Bool := decide (272 < x.length)
set_option maxHeartbeats 1000000 in
set_option maxRecDepth 100000 in
theorem long_any (w : World) (A : Option Addr) (n c : Nat) (hn : n ≤ 9223372036854775807) : Calls Tryd.prog 36 #[.slice A n c] w fun e w' => e = .returned (.bool (decide (272 < n))) ∧ Ext w w' := by
  obtain ⟨v, hv⟩ : ∃ v, decide (272 < n) = v := ⟨_, rfl⟩
  rw [hv]
  have hv' : decide ((272 : Int) < (n : Int)) = v := by rw [← hv]; apply decide_eq_decide.2; omega
  clear hv
  go_enter Tryd.func36, Tryd.ntmps36
  go_wp2_with fail
  go_ret
  exact ⟨ret_bool (by first | exact hv' | simp [hv']), Ext.refl _⟩
set_option maxHeartbeats 1000000 in
set_option maxRecDepth 100000 in
theorem indexL_any (w : World) (A : Option Addr) (c : Nat) (l : List (List UInt8)) (hS : rdB.Sl w A l.length l) (hc : l.length ≤ c) (hn : l.length ≤ 1000000) (hm : ∀ x ∈ l, x.length ≤ 9223372036854775807) :
    Calls Tryd.prog 69 #[.slice A l.length c, .func (.func 36) #[] #[]] w fun e w' => e = .returned (.int .i64 (firstI longB l 0)) ∧ Ext w w' := by
  obtain ⟨v, hv⟩ : ∃ v, firstI longB l 0 = v := ⟨_, rfl⟩
  rw [hv]
  obtain ⟨n, hln⟩ : ∃ n, l.length = n := ⟨_, rfl⟩
  rw [hln] at hS hc hn ⊢
  go_enter Tryd.func69, Tryd.ntmps69
  go_wp2_with fail
  go_loopw [8] (fun i wr => ∃ k : Nat, k ≤ n ∧ i = .int .i64 k ∧ (∀ x ∈ l.take k, longB x = false) ∧ Ext w wr) (fun i _ => n - (intOf i).toNat)
  case atStart => exact ⟨0, by omega, rfl, by simp, Ext.refl _⟩
  case round =>
    obtain ⟨k, hkn, rfl, hd, hwr⟩ := hrel
    by_cases hlt : k < n
    · obtain ⟨b, o, A1, c1, rfl, x0, -, -⟩ := n_get hS k hlt
      have hres : longB (l[k]'(by omega)) = true → v = (k : Int) := fun h => by rw [← hv, firstI_at longB l 0 k (by omega) hd h, Nat.zero_add]
      have htk : l.take (k + 1) = l.take k ++ [l[k]'(by omega)] := List.take_succ_eq_append_getElem (by omega)
      have hxm := hm _ (List.getElem_mem (l := l) (n := k) (by omega))
      generalize hx : l[k]'(by omega) = x at *
      have x0 := hwr.cellk x0
      have ho := long_any wr A1 x.length c1 hxm
      obtain ⟨b, hb⟩ : ∃ b, longB x = b := ⟨_, rfl⟩
      have hb' : decide (272 < x.length) = b := hb
      rw [hb'] at ho
      rw [hb] at hres
      obtain ⟨m, hm'⟩ : ∃ m, x.length = m := ⟨_, rfl⟩
      rw [hm'] at x0 ho
      clear hS hx hb' hm' hxm
      cases b
      · have hrel : ∀ y ∈ l.take (k + 1), longB y = false := by
          rw [htk]
          intro y hy
          rcases List.mem_append.1 hy with hy | hy
          · exact hd y hy
          · obtain rfl : y = x := by simpa using hy
            exact hb
        clear hres hd htk
        go_wp2_with (go_at_call 36; (with_reducible refine ho.mono ?_); rintro e w1 ⟨rfl, hE1⟩)
        go_roundw
        case rel => exact ⟨k + 1, by omega, by go_num, hrel, hwr.trans hE1⟩
        case measure => simp [intOf]; omega
      · obtain rfl := hres rfl
        clear hd htk hv
        go_wp2_with (go_at_call 36; (with_reducible refine ho.mono ?_); rintro e w1 ⟨rfl, hE1⟩)
        go_ret
        exact ⟨rfl, hwr.trans hE1⟩
    · obtain rfl : k = n := by omega
      rw [← hln, List.take_length] at hd
      have hv2 := firstI_no longB l 0 hd
      rw [hv] at hv2
      go_wp2_with fail
      go_ret
      exact ⟨ret_int hv2.symm, hwr⟩
set_option maxHeartbeats 1000000 in
set_option maxRecDepth 100000 in
theorem containsL_any (w : World) (A : Option Addr) (c : Nat) (l : List (List UInt8)) (hS : rdB.Sl w A l.length l) (hc : l.length ≤ c) (hn : l.length ≤ 1000000) (hm : ∀ x ∈ l, x.length ≤ 9223372036854775807) :
    Calls Tryd.prog 42 #[.slice A l.length c, .func (.func 36) #[] #[]] w fun e w' => e = .returned (.bool (l.any longB)) ∧ Ext w w' := by
  have hi := indexL_any w A c l hS hc hn hm
  rw [← firstI_any longB l 0]
  generalize firstI longB l 0 = v at *
  generalize l.length = n at *
  clear hS
  go_enter Tryd.func42, Tryd.ntmps42
  go_wp2_with (go_at_call 69; (with_reducible refine hi.mono ?_); rintro e w1 ⟨rfl, hE1⟩)
  go_ret
  exact ⟨rfl, hE1⟩
end Go.Proofs.YtkmjnbfhfjafpaaDoor
