/- Records: what is asked of their fields. -/
import Derived.Test.YtkmjnbfhfjafpaaDoorRecTypes
import Derived.Test.YtkmjnbfhfjafpaaDoorName
namespace Go.Proofs.YtkmjnbfhfjafpaaDoor
set_option linter.unusedVariables false
set_option linter.unusedSimpArgs false
open Go.RowKit
open Go.Shelf
def oddB (x : Int × Int) : Bool := decide (x.1 < 0) || decide (x.2 < x.1)
def rdP : Rd (Int × Int) := Rd.pair (Rd.int .i64) (Rd.int .i64)
def encP (x : Int × Int) : List Value := [.int .i64 x.1, .int .i64 x.2]
theorem p_get {w : World} {A : Option Addr} {n : Nat} {l : List (Int × Int)} (h : rdP.Sl w A n l) (k : Nat) (hk : k < n) : ∃ b o, A = some ⟨b, o, none⟩ ∧ w.cell? ⟨b, o + k * 2, none⟩ = some (.int .i64 (l[k]'(by rw [h.1]; exact hk)).1) ∧ w.cell? ⟨b, o + k * 2 + 1, none⟩ = some (.int .i64 (l[k]'(by rw [h.1]; exact hk)).2) := by
  obtain ⟨b, o, cs, e, ⟨_, _, rfl, h0, h1⟩, hc⟩ := h.get k hk
  refine ⟨b, o, e, ?_, ?_⟩
  · have := hc 0 _ (by rw [show _ = [_] from h0]; rfl)
    simpa [rdP, Rd.pair, Rd.int] using this
  · have := hc 1 _ (by rw [show _ = [_] from h0, show _ = [_] from h1]; rfl)
    simpa [rdP, Rd.pair, Rd.int] using this
set_option maxHeartbeats 1000000 in
set_option maxRecDepth 100000 in
theorem odd_any (x : Int × Int) (w : World) : Calls Tryd.prog 41 #[.agg #[.int .i64 x.1, .int .i64 x.2]] w fun e w' => e = .returned (.bool (oddB x)) ∧ Ext w w' := by
  obtain ⟨n, m⟩ := x
  obtain ⟨v, hv⟩ : ∃ v, oddB (n, m) = v := ⟨_, rfl⟩
  rw [hv]
  unfold oddB at hv
  by_cases h1 : n < 0
  · obtain rfl : true = v := by rw [← hv]; simp [h1]
    clear hv
    go_enter Tryd.func41, Tryd.ntmps41
    go_wp2_with fail
    go_ret
    exact ⟨rfl, (Ext.refl w).alloc _⟩
  · by_cases h2 : m < n
    · obtain rfl : true = v := by rw [← hv]; simp [h2]
      clear hv
      go_enter Tryd.func41, Tryd.ntmps41
      go_wp2_with fail
      go_ret
      exact ⟨rfl, (Ext.refl w).alloc _⟩
    · obtain rfl : false = v := by rw [← hv]; simp [h1, h2]
      clear hv
      go_enter Tryd.func41, Tryd.ntmps41
      go_wp2_with fail
      go_ret
      exact ⟨rfl, (Ext.refl w).alloc _⟩
def firstI {α : Type} (p : α → Bool) : List α → Nat → Int
  | [], _ => -1
  | x :: l, k => if p x then k else firstI p l (k + 1)
theorem firstI_at {α : Type} (p : α → Bool) : ∀ (l : List α) (j k : Nat) (hk : k < l.length), (∀ x ∈ l.take k, p x = false) → p l[k] = true → firstI p l j = ((j + k : Nat) : Int)
  | x :: l, j, 0, _, _, h => by unfold firstI; rw [if_pos (show p x = true from h)]; simp
  | x :: l, j, k + 1, hk, hn, h => by
    unfold firstI
    rw [if_neg (by rw [hn x (by simp)]; simp), firstI_at p l (j + 1) k (by simpa using hk) (fun y hy => hn y (by simp [hy])) h]
    congr 1; omega
theorem firstI_no {α : Type} (p : α → Bool) : ∀ (l : List α) (j : Nat), (∀ x ∈ l, p x = false) → firstI p l j = -1
  | [], _, _ => rfl
  | x :: l, j, hn => by
    unfold firstI
    rw [if_neg (by rw [hn x (by simp)]; simp)]
    exact firstI_no p l _ fun y hy => hn y (by simp [hy])
theorem firstI_any {α : Type} (p : α → Bool) : ∀ (l : List α) (j : Nat), decide (0 ≤ firstI p l j) = l.any p
  | [], _ => by simp [firstI]
  | x :: l, j => by
    unfold firstI
    rw [List.any_cons]
    cases h : p x
    · simpa using firstI_any p l (j + 1)
    · simp
set_option maxHeartbeats 1000000 in
set_option maxRecDepth 100000 in
theorem indexB_any (w : World) (A : Option Addr) (c : Nat) (l : List (Int × Int)) (hS : rdP.Sl w A l.length l) (hc : l.length ≤ c) (hn : l.length ≤ 1000000) :
    Calls Tryd.prog 68 #[.slice A l.length c, .func (.func 41) #[] #[]] w fun e w' => e = .returned (.int .i64 (firstI oddB l 0)) ∧ Ext w w' := by
  obtain ⟨v, hv⟩ : ∃ v, firstI oddB l 0 = v := ⟨_, rfl⟩
  rw [hv]
  obtain ⟨n, hln⟩ : ∃ n, l.length = n := ⟨_, rfl⟩
  rw [hln] at hS hc hn ⊢
  go_enter Tryd.func68, Tryd.ntmps68
  go_wp2_with fail
  go_loopw [8] (fun i wr => ∃ k : Nat, k ≤ n ∧ i = .int .i64 k ∧ (∀ x ∈ l.take k, oddB x = false) ∧ Ext w wr) (fun i _ => n - (intOf i).toNat)
  case atStart => exact ⟨0, by omega, rfl, by simp, Ext.refl _⟩
  case round =>
    obtain ⟨k, hkn, rfl, hd, hwr⟩ := hrel
    by_cases hlt : k < n
    · obtain ⟨b, o, rfl, x0, x1⟩ := p_get hS k hlt
      have hres : oddB (l[k]'(by omega)) = true → v = (k : Int) := fun h => by rw [← hv, firstI_at oddB l 0 k (by omega) hd h, Nat.zero_add]
      have htk : l.take (k + 1) = l.take k ++ [l[k]'(by omega)] := List.take_succ_eq_append_getElem (by omega)
      generalize hx : l[k]'(by omega) = x at *
      have x0 := hwr.cellk x0
      have x1 := hwr.cellk x1
      have ho := odd_any x wr
      obtain ⟨b, hb⟩ : ∃ b, oddB x = b := ⟨_, rfl⟩
      rw [hb] at ho hres
      clear hS hx
      cases b
      · have hrel : ∀ y ∈ l.take (k + 1), oddB y = false := by
          rw [htk]
          intro y hy
          rcases List.mem_append.1 hy with hy | hy
          · exact hd y hy
          · obtain rfl : y = x := by simpa using hy
            exact hb
        clear hres hd htk
        go_wp2_with (go_at_call 41; (with_reducible refine ho.mono ?_); rintro e w1 ⟨rfl, hE1⟩)
        go_roundw
        case rel => exact ⟨k + 1, by omega, by go_num, hrel, hwr.trans hE1⟩
        case measure => simp [intOf]; omega
      · obtain rfl := hres rfl
        clear hd htk hv
        go_wp2_with (go_at_call 41; (with_reducible refine ho.mono ?_); rintro e w1 ⟨rfl, hE1⟩)
        go_ret
        exact ⟨rfl, hwr.trans hE1⟩
    · obtain rfl : k = n := by omega
      rw [← hln, List.take_length] at hd
      have hv2 := firstI_no oddB l 0 hd
      rw [hv] at hv2
      go_wp2_with fail
      go_ret
      exact ⟨ret_int hv2.symm, hwr⟩
set_option maxHeartbeats 1000000 in
set_option maxRecDepth 100000 in
theorem containsB_any (w : World) (A : Option Addr) (c : Nat) (l : List (Int × Int)) (hS : rdP.Sl w A l.length l) (hc : l.length ≤ c) (hn : l.length ≤ 1000000) :
    Calls Tryd.prog 39 #[.slice A l.length c, .func (.func 41) #[] #[]] w fun e w' => e = .returned (.bool (l.any oddB)) ∧ Ext w w' := by
  have hi := indexB_any w A c l hS hc hn
  rw [← firstI_any oddB l 0]
  generalize firstI oddB l 0 = v at *
  generalize l.length = n at *
  clear hS
  go_enter Tryd.func39, Tryd.ntmps39
  go_wp2_with (go_at_call 68; (with_reducible refine hi.mono ?_); rintro e w1 ⟨rfl, hE1⟩)
  go_ret
  exact ⟨rfl, hE1⟩
def boundsG (r : Rec) : List (Int × Int) := [(r.clock, 1099511627776), (r.id, 1099511627776), (r.num, 1099511627776), (r.code, 25), (r.slot, 64), (r.uses, 200)]
theorem bounds_cells (r : Rec) : (boundsG r).flatMap encP = (#[.int .i64 r.clock, .int .i64 1099511627776, .int .i64 r.id, .int .i64 1099511627776, .int .i64 r.num, .int .i64 1099511627776, .int .i64 r.code, .int .i64 25, .int .i64 r.slot, .int .i64 64, .int .i64 r.uses, .int .i64 200] : Array Value).toList := rfl
set_option maxHeartbeats 1000000 in
set_option maxRecDepth 100000 in
theorem bounds_any (w : World) (r : Rec) (v : Value) : Calls Tryd.prog 40 #[.agg #[.string r.ten, .int .i64 r.clock, .int .i64 r.kind, .int .i64 r.code, .int .i64 r.id, .string r.st, .string r.su, .int .i64 r.slot, .int .i64 r.uses, .int .i64 r.num, v]] w fun e w' => ∃ A c, e = .returned (.slice A 6 c) ∧ 6 ≤ c ∧ rdP.Sl w' A 6 (boundsG r) ∧ Ext w w' := by
  go_enter Tryd.func40, Tryd.ntmps40
  go_wp2_with fail
  go_ret
  have hown := World.ownsRow_lit (w := w.alloc (.cells #[.string r.ten, .int .i64 r.clock, .int .i64 r.kind, .int .i64 r.code, .int .i64 r.id, .string r.st, .string r.su, .int .i64 r.slot, .int .i64 r.uses, .int .i64 r.num, v] 25)) (base := 0) (e := 57) (size := 2) #[.int .i64 r.clock, .int .i64 1099511627776, .int .i64 r.id, .int .i64 1099511627776, .int .i64 r.num, .int .i64 1099511627776, .int .i64 r.code, .int .i64 25, .int .i64 r.slot, .int .i64 64, .int .i64 r.uses, .int .i64 200] 6 (Nat.zero_le _) (by decide) rfl
  rw [← bounds_cells] at hown
  obtain ⟨A, c, hv, hc, hS⟩ := own_sl (d := rdP) (f := encP) (l := boundsG r) (fun _ => rfl) (fun _ _ => ⟨_, _, rfl, rfl, rfl⟩) hown
  injection hv with e1 e2 e3
  refine ⟨some ⟨w.heap.size + 1, 0, none⟩, 6, rfl, Nat.le_refl _, ?_, ((Ext.refl w).alloc _).alloc _⟩
  rw [← e1, show (w.alloc (.cells #[.string r.ten, .int .i64 r.clock, .int .i64 r.kind, .int .i64 r.code, .int .i64 r.id, .string r.st, .string r.su, .int .i64 r.slot, .int .i64 r.uses, .int .i64 r.num, v] 25)).heap.size = w.heap.size + 1 by simp] at hS
  exact hS
set_option maxHeartbeats 1000000 in
set_option maxRecDepth 100000 in
theorem named_any (s : ByteArray) (w : World) (hs : s.size ≤ 9223372036854775807) : Calls Tryd.prog 38 #[.string s] w fun e w' => e = .returned (.bool (s.toList == [] || nm s.data.toList)) ∧ Ext w w' := by
  have hn := name_any s w hs
  obtain ⟨b, hb⟩ : ∃ b, (s.toList == []) = b := ⟨_, rfl⟩
  have hb2 : s.toList.isEmpty = b := by rw [← hb]; cases s.toList <;> rfl
  rw [hb]
  cases b
  · have hb3 : (!s.toList.isEmpty) = true := by rw [hb2]; rfl
    go_enter Tryd.func38, Tryd.ntmps38
    go_wp2_with (go_at_call 37; (with_reducible refine hn.mono ?_); rintro e w1 ⟨rfl, hE1⟩)
    go_ret
    exact ⟨rfl, hE1⟩
  · have hb3 : s.toList = [] := by simpa using hb
    clear hb
    go_enter Tryd.func38, Tryd.ntmps38
    go_wp2_with fail
    go_ret
    exact ⟨rfl, Ext.refl _⟩
end Go.Proofs.YtkmjnbfhfjafpaaDoor
