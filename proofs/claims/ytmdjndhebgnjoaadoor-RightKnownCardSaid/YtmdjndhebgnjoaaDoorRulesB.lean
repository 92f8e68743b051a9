/- Rules: the document's answer; what the rules leave. -/
import Derived.Test.YtmdjndhebgnjoaaDoorRulesA
namespace Go.Proofs.YtmdjndhebgnjoaaDoor
set_option linter.unusedVariables false
set_option linter.unusedSimpArgs false
open Go.RowKit Go.Shelf
theorem refprefix_val (p : ByteArray) (v : Bool) (h : prefd p = v) (hs : p.size ≤ 9223372036854775807) (w : World) : Calls Tryd.prog 39 #[.string p] w fun e w' => e = .returned (.bool v) ∧ Ext w w' := by
  have := refprefix_any p w hs
  rwa [h] at this
set_option maxHeartbeats 1000000 in
set_option maxRecDepth 100000 in
theorem refcheckRules_any (w : World) (A : Option Addr) (c : Nat) (xs : List Rule) (hS : rdRule.Sl w A xs.length xs) (hc : xs.length ≤ c) (hn : xs.length ≤ 9223372036854775807) (hp : ∀ x ∈ xs, x.p.size ≤ 9223372036854775807) : Calls Tryd.prog 27 #[.slice A xs.length c] w fun e w' => e = .returned (.int .i64 (checkRulesG xs)) ∧ Ext w w' := by
  unfold checkRulesG
  obtain ⟨v, hv⟩ : ∃ v, rulesOk xs = v := ⟨_, rfl⟩
  rw [hv]
  obtain ⟨n, hxn⟩ : ∃ n, xs.length = n := ⟨_, rfl⟩
  rw [hxn] at hS hn hc ⊢
  go_enter Tryd.func27, Tryd.ntmps27
  by_cases h8 : 8 < n
  · rw [if_pos h8]
    go_wp2_with fail
    go_ret
    exact ⟨rfl, by (repeat (first | assumption | exact Ext.refl _ | refine Ext.drew ?_ | refine Ext.alloc ?_ _ | refine Ext.drewN ?_ _ | refine Ext.trans ?_ (by assumption)))⟩
  rw [if_neg h8]
  go_wp2_with fail
  go_loopw [3] (fun i wr => ∃ k : Nat, k ≤ n ∧ i = .int .i64 k ∧ rulesOk (xs.drop k) = v ∧ Ext w wr) (fun i _ => n - (intOf i).toNat)
  case atStart => exact ⟨0, by omega, rfl, hv, Ext.refl _⟩
  case round =>
    obtain ⟨k, hkn, rfl, hd, hwr⟩ := hrel
    by_cases hlt : k < n
    · have hwk : wrap64 ((k : Int) + 1) = (k : Int) + 1 := IntWalk.wrap64_in _ ⟨by omega, by omega⟩
      have HX := (hS.ext hwr).get k hlt
      have hpk := hp xs[k] (List.getElem_mem _)
      rw [rulesOk_drop (by omega)] at hd
      obtain ⟨b, o, cs, rfl, hk, hcell⟩ := HX
      have hcs := rdRule_cells hk
      generalize hx : xs[k]'(by omega) = x at *
      subst hcs
      have x0 : wr.cell? ⟨b, o + k * 2, none⟩ = some (.string x.p) := hcell 0 _ rfl
      have x1 : wr.cell? ⟨b, o + k * 2 + 1, none⟩ = some (.int .i64 x.r) := hcell 1 _ rfl
      have r0 := fun (w' : World) (h : Ext wr w') => h.cellk x0
      have r1 := fun (w' : World) (h : Ext wr w') => h.cellk x1
      have hX0 : Ext wr wr := Ext.refl wr
      clear hcell hx hk x0 x1
      cases hpf : prefd x.p
      · rw [if_pos hpf] at hd
        subst hd
        go_wp2_with (go_at_call 39; (with_reducible refine (refprefix_val _ _ hpf hpk _).mono ?_); rintro e w' ⟨rfl, hb⟩; have hX : Ext wr w' := (by (repeat (first | assumption | exact Ext.refl _ | refine Ext.drew ?_ | refine Ext.alloc ?_ _ | refine Ext.drewN ?_ _ | refine Ext.trans ?_ (by assumption)))))
        go_ret
        exact ⟨rfl, hwr.trans (by (repeat (first | assumption | exact Ext.refl _ | refine Ext.drew ?_ | refine Ext.alloc ?_ _ | refine Ext.drewN ?_ _ | refine Ext.trans ?_ (by assumption))))⟩
      · rw [if_neg (by rw [hpf]; decide)] at hd
        by_cases hr : x.r < 0 ∨ 127 < x.r
        · rw [if_pos hr] at hd
          subst hd
          go_wp2_with (go_at_call 39; (with_reducible refine (refprefix_val _ _ hpf hpk _).mono ?_); rintro e w' ⟨rfl, hb⟩; have hX : Ext wr w' := (by (repeat (first | assumption | exact Ext.refl _ | refine Ext.drew ?_ | refine Ext.alloc ?_ _ | refine Ext.drewN ?_ _ | refine Ext.trans ?_ (by assumption)))))
          all_goals go_ret
          all_goals exact ⟨rfl, hwr.trans (by (repeat (first | assumption | exact Ext.refl _ | refine Ext.drew ?_ | refine Ext.alloc ?_ _ | refine Ext.drewN ?_ _ | refine Ext.trans ?_ (by assumption))))⟩
        · rw [if_neg hr] at hd
          go_wp2_with (go_at_call 39; (with_reducible refine (refprefix_val _ _ hpf hpk _).mono ?_); rintro e w' ⟨rfl, hb⟩; have hX : Ext wr w' := (by (repeat (first | assumption | exact Ext.refl _ | refine Ext.drew ?_ | refine Ext.alloc ?_ _ | refine Ext.drewN ?_ _ | refine Ext.trans ?_ (by assumption)))))
          go_roundw
          case rel => exact ⟨k + 1, by omega, by go_num, hd, hwr.trans (by (repeat (first | assumption | exact Ext.refl _ | refine Ext.drew ?_ | refine Ext.alloc ?_ _ | refine Ext.drewN ?_ _ | refine Ext.trans ?_ (by assumption))))⟩
          case measure => simp [intOf]; omega
    · obtain rfl : k = n := by omega
      rw [← hxn, List.drop_length] at hd
      simp only [rulesOk] at hd
      subst hd
      go_wp2_with fail
      go_ret
      exact ⟨rfl, hwr⟩
/-- Is the rule's prefix longer than the best one's so far? -/
def lenO : Option Rule → Int
  | none => -1
  | some r => r.p.size
def okO (q : Int) : Option Rule → Bool
  | none => true
  | some r => hasR r.r q
/-- The best rule: the first of the longest prefixes with which the stream begins. -/
def bestR (s : ByteArray) : Option Rule → List Rule → Option Rule
  | a, [] => a
  | a, x :: l => bestR s (if lenO a < x.p.size ∧ pre s x.p = true then some x else a) l
def allowedG (l : List Rule) (q : Int) (s : ByteArray) : Bool := okO q (bestR s none l)
theorem bestR_drop {s : ByteArray} {a : Option Rule} {l : List Rule} {k : Nat} (h : k < l.length) : bestR s a (l.drop k) = bestR s (if lenO a < l[k].p.size ∧ pre s l[k].p = true then some l[k] else a) (l.drop (k + 1)) := by
  rw [List.drop_eq_getElem_cons h]
  rfl
theorem prefix_val (s p : ByteArray) (v : Bool) (h : pre s p = v) (w : World) : Calls Tryd.prog 42 #[.string s, .string p] w fun e w' => e = .returned (.bool v) ∧ Ext w w' := by
  have := prefix_any s p w
  rwa [h] at this
theorem hasx_val (a b : Int) (v : Bool) (h : hasR a b = v) (w : World) : Calls Tryd.prog 32 #[.int .i64 a, .int .i64 b] w fun e w' => e = .returned (.bool v) ∧ Ext w w' := by
  refine (has_val a b v h w).mono ?_
  rintro e w' ⟨rfl, rfl⟩
  exact ⟨rfl, Ext.refl _⟩
set_option maxHeartbeats 1000000 in
set_option maxRecDepth 100000 in
theorem allowed_any (w : World) (A : Option Addr) (c : Nat) (xs : List Rule) (hS : rdRule.Sl w A xs.length xs) (hc : xs.length ≤ c) (hn : xs.length ≤ 9223372036854775807) (hp : ∀ x ∈ xs, x.p.size ≤ 9223372036854775807) (q : Int) (s : ByteArray) : Calls Tryd.prog 24 #[.slice A xs.length c, .int .i64 q, .string s] w fun e w' => e = .returned (.bool (allowedG xs q s)) ∧ Ext w w' := by
  unfold allowedG
  obtain ⟨v, hv⟩ : ∃ v, bestR s none xs = v := ⟨_, rfl⟩
  rw [hv]
  obtain ⟨n, hxn⟩ : ∃ n, xs.length = n := ⟨_, rfl⟩
  rw [hxn] at hS hn hc ⊢
  go_enter Tryd.func24, Tryd.ntmps24
  go_wp2_with fail
  go_loopw [7, 8, 14] (fun s7 s8 i wr => ∃ (k : Nat) (a : Option Rule), k ≤ n ∧ s7 = .int .i64 (lenO a) ∧ s8 = .bool (okO q a) ∧ i = .int .i64 k ∧ bestR s a (xs.drop k) = v ∧ Ext w wr) (fun _ _ i _ => n - (intOf i).toNat)
  case atStart => exact ⟨0, none, by omega, rfl, rfl, rfl, hv, Ext.refl _⟩
  case round =>
    obtain ⟨k, a, hkn, rfl, rfl, rfl, hd, hwr⟩ := hrel
    by_cases hlt : k < n
    · have hwk : wrap64 ((k : Int) + 1) = (k : Int) + 1 := IntWalk.wrap64_in _ ⟨by omega, by omega⟩
      have HX := (hS.ext hwr).get k hlt
      have hpk := hp xs[k] (List.getElem_mem _)
      rw [bestR_drop (by omega)] at hd
      obtain ⟨b, o, cs, rfl, hk, hcell⟩ := HX
      have hcs := rdRule_cells hk
      generalize hx : xs[k]'(by omega) = x at *
      subst hcs
      have x0 : wr.cell? ⟨b, o + k * 2, none⟩ = some (.string x.p) := hcell 0 _ rfl
      have x1 : wr.cell? ⟨b, o + k * 2 + 1, none⟩ = some (.int .i64 x.r) := hcell 1 _ rfl
      clear hcell hx hk
      obtain ⟨la, hla⟩ : ∃ la, lenO a = la := ⟨_, rfl⟩
      obtain ⟨oa, hoa⟩ : ∃ oa, okO q a = oa := ⟨_, rfl⟩
      rw [hla] at hd
      rw [hla, hoa]
      go_upto_region 4 with fail
      go_cut [10] from 16 to 17 (fun s4 wx => ∃ g : Nat, s4 = .pointer (some ⟨g, 0, none⟩) ∧ wr.heap.size ≤ g ∧ Blk wx g 40 #[.string x.p, .int .i64 x.r] ∧ Ext wr wx)
      case first =>
        go_wp2_with fail
        go_meet
        exact ⟨_, rfl, Nat.le_refl _, Blk.new _ _ _, (Ext.refl _).alloc _⟩
      case rest =>
        obtain ⟨g, rfl, hg, hB, hE⟩ := hcut
        have d0 := hB.cell 0 rfl
        have d1 := hB.cell 1 rfl
        have r0 := fun (w' : World) (h : Ext wc w') => h.cellk d0
        have r1 := fun (w' : World) (h : Ext wc w') => h.cellk d1
        have hX0 : Ext wc wc := Ext.refl wc
        have hE2 := hwr.trans hE
        clear hB d0 d1 x0 x1
        by_cases hl : la < x.p.size
        · cases hpf : pre s x.p
          · rw [if_neg (by rw [hpf]; simp)] at hd
            go_wp2_with (first | (go_at_call 42; (with_reducible refine (prefix_val _ _ _ hpf _).mono ?_); rintro e w' ⟨rfl, hb⟩; have hX : Ext wc w' := (by (repeat (first | assumption | exact Ext.refl _ | refine Ext.drew ?_ | refine Ext.alloc ?_ _ | refine Ext.drewN ?_ _ | refine Ext.trans ?_ (by assumption))))) | (go_at_call 32; (with_reducible refine (hasx_val _ _ _ rfl _).mono ?_); rintro e w' ⟨rfl, hb⟩; have hX : Ext wc w' := (by (repeat (first | assumption | exact Ext.refl _ | refine Ext.drew ?_ | refine Ext.alloc ?_ _ | refine Ext.drewN ?_ _ | refine Ext.trans ?_ (by assumption))))))
            go_roundw
            case rel => exact ⟨k + 1, a, by omega, by rw [hla], by rw [hoa], by go_num, hd, hE2.trans (by (repeat (first | assumption | exact Ext.refl _ | refine Ext.drew ?_ | refine Ext.alloc ?_ _ | refine Ext.drewN ?_ _ | refine Ext.trans ?_ (by assumption))))⟩
            case measure => simp [intOf]; omega
          · rw [if_pos ⟨hl, hpf⟩] at hd
            go_wp2_with (first | (go_at_call 42; (with_reducible refine (prefix_val _ _ _ hpf _).mono ?_); rintro e w' ⟨rfl, hb⟩; have hX : Ext wc w' := (by (repeat (first | assumption | exact Ext.refl _ | refine Ext.drew ?_ | refine Ext.alloc ?_ _ | refine Ext.drewN ?_ _ | refine Ext.trans ?_ (by assumption))))) | (go_at_call 32; (with_reducible refine (hasx_val _ _ _ rfl _).mono ?_); rintro e w' ⟨rfl, hb⟩; have hX : Ext wc w' := (by (repeat (first | assumption | exact Ext.refl _ | refine Ext.drew ?_ | refine Ext.alloc ?_ _ | refine Ext.drewN ?_ _ | refine Ext.trans ?_ (by assumption))))))
            go_roundw
            case rel => exact ⟨k + 1, some x, by omega, rfl, rfl, by go_num, hd, hE2.trans (by (repeat (first | assumption | exact Ext.refl _ | refine Ext.drew ?_ | refine Ext.alloc ?_ _ | refine Ext.drewN ?_ _ | refine Ext.trans ?_ (by assumption))))⟩
            case measure => simp [intOf]; omega
        · rw [if_neg (fun h => hl h.1)] at hd
          go_wp2_with (first | (go_at_call 42; (with_reducible refine (prefix_val _ _ _ hpf _).mono ?_); rintro e w' ⟨rfl, hb⟩; have hX : Ext wc w' := (by (repeat (first | assumption | exact Ext.refl _ | refine Ext.drew ?_ | refine Ext.alloc ?_ _ | refine Ext.drewN ?_ _ | refine Ext.trans ?_ (by assumption))))) | (go_at_call 32; (with_reducible refine (hasx_val _ _ _ rfl _).mono ?_); rintro e w' ⟨rfl, hb⟩; have hX : Ext wc w' := (by (repeat (first | assumption | exact Ext.refl _ | refine Ext.drew ?_ | refine Ext.alloc ?_ _ | refine Ext.drewN ?_ _ | refine Ext.trans ?_ (by assumption))))))
          go_roundw
          case rel => exact ⟨k + 1, a, by omega, by rw [hla], by rw [hoa], by go_num, hd, hE2.trans (by (repeat (first | assumption | exact Ext.refl _ | refine Ext.drew ?_ | refine Ext.alloc ?_ _ | refine Ext.drewN ?_ _ | refine Ext.trans ?_ (by assumption))))⟩
          case measure => simp [intOf]; omega
    · obtain rfl : k = n := by omega
      rw [← hxn, List.drop_length] at hd
      simp only [bestR] at hd
      subst hd
      go_wp2_with fail
      go_ret
      exact ⟨rfl, hwr⟩
end Go.Proofs.YtmdjndhebgnjoaaDoor
