/- RightRules: the walk. -/
import Derived.Test.YtmdjndhebgnjoaaDoorRulesE
import Derived.Test.YtmdjndhebgnjoaaDoorWorks
namespace Go.Proofs.YtmdjndhebgnjoaaDoor
set_option linter.unusedVariables false
set_option linter.unusedSimpArgs false
open Go.RowKit Go.Shelf
theorem own_rules_ne {w : World} {base : Nat} {e : TypeId} {v : Value} {l : List Rule} (h : w.ownsRow base e 2 v l.length (l.flatMap encRule)) (h0 : 0 < l.length) : ∃ g c, v = .slice (some ⟨g, 0, none⟩) l.length c ∧ l.length ≤ c ∧ c ≤ maxLen ∧ rdRule.Sl w (some ⟨g, 0, none⟩) l.length l := by
  obtain ⟨A, c, hv, hc, hS⟩ := own_rules h
  obtain ⟨_, ⟨_, hn⟩ | ⟨g, cap, cur, hv2, hb, hcc, hle, hm, _⟩⟩ := h
  · omega
  · rw [hv2] at hv
    injection hv with e1 e2 e3
    subst e1 e3
    exact ⟨g, cap, hv2, hle, hm, hS⟩
set_option maxHeartbeats 1000000 in
set_option maxRecDepth 100000 in
theorem rules_walk (w : World) (A : Option Addr) (c : Nat) (xs : List Rule) (hS : rdRule.Sl w A xs.length xs) (hc : xs.length ≤ c) (hn : xs.length ≤ 9223372036854775807) (hrw : ∀ x ∈ xs, (Lit.int .i64 x.r).wf = true) (q : Int) (s : ByteArray) (hq : (Lit.int .i64 q).wf = true) : Calls Tryd.prog 8 #[.slice A xs.length c, .int .i64 q, .string s] w fun e w' => e = .returned (.bool true) ∧ Ext w w' := by
  obtain ⟨n, hxn⟩ : ∃ n, xs.length = n := ⟨_, rfl⟩
  have hX0 : Ext w w := Ext.refl w
  have hS0 := hS
  rw [hxn] at hS hn hc ⊢
  go_enter Tryd.func8, Tryd.ntmps8
  by_cases hm : 200 < n ∨ 4096 < s.size
  · go_wp2_with (go_at_call 10; (with_reducible refine (works_any _).mono ?_); rintro e w' ⟨rfl, hb⟩; have hX : Ext w w' := (by (repeat (first | assumption | exact Ext.refl _ | refine Ext.drew ?_ | refine Ext.alloc ?_ _ | refine Ext.drewN ?_ _ | refine Ext.trans ?_ (by assumption)))))
    all_goals go_ret
    all_goals exact ⟨rfl, by (repeat (first | assumption | exact Ext.refl _ | refine Ext.drew ?_ | refine Ext.alloc ?_ _ | refine Ext.drewN ?_ _ | refine Ext.trans ?_ (by assumption)))⟩
  have hn2 : ¬ 200 < n := by omega
  have hs2 : ¬ 4096 < s.size := by omega
  go_wp2_with fail
  go_loopw [7] (fun i wr => ∃ k : Nat, k ≤ n ∧ i = .int .i64 k ∧ (∀ x ∈ xs.take k, x.p.size ≤ 4096) ∧ Ext w wr) (fun i _ => n - (intOf i).toNat)
  case atStart => exact ⟨0, by omega, rfl, by simp, hX0⟩
  case round =>
    obtain ⟨k, hkn, rfl, hd, hwr⟩ := hrel
    by_cases hlt : k < n
    · have HX := (hS.ext hwr).get k hlt
      have htk : xs.take (k + 1) = xs.take k ++ [xs[k]] := List.take_succ_eq_append_getElem (by omega)
      obtain ⟨b, o, cs, rfl, hk, hcell⟩ := HX
      have hcs := rdRule_cells hk
      generalize hx : xs[k]'(by omega) = x at *
      subst hcs
      have x0 : wr.cell? ⟨b, o + k * 2, none⟩ = some (.string x.p) := hcell 0 _ rfl
      have x1 : wr.cell? ⟨b, o + k * 2 + 1, none⟩ = some (.int .i64 x.r) := hcell 1 _ rfl
      clear hcell hx hk hS hS0
      by_cases hp : 4096 < x.p.size
      · go_wp2_with (go_at_call 10; (with_reducible refine (works_any _).mono ?_); rintro e w' ⟨rfl, hb⟩; have hX : Ext w w' := (by (repeat (first | assumption | exact Ext.refl _ | refine Ext.drew ?_ | refine Ext.alloc ?_ _ | refine Ext.drewN ?_ _ | refine Ext.trans ?_ (by assumption)))))
        go_ret
        exact ⟨rfl, by (repeat (first | assumption | exact Ext.refl _ | refine Ext.drew ?_ | refine Ext.alloc ?_ _ | refine Ext.drewN ?_ _ | refine Ext.trans ?_ (by assumption)))⟩
      · go_wp2_with fail
        go_roundw
        case rel =>
          refine ⟨k + 1, by omega, by go_num, ?_, hwr⟩
          rw [htk]
          intro y hy
          rcases List.mem_append.1 hy with hy | hy
          · exact hd y hy
          · obtain rfl : y = x := by simpa using hy
            omega
        case measure => simp [intOf]; omega
    · obtain rfl : k = n := by omega
      rw [← hxn, List.take_length] at hd
      have hp : ∀ x ∈ xs, x.p.size ≤ 9223372036854775807 := fun x hx => by have := hd x hx; omega
      go_wp2_with fail
      subst hxn
      refine (lentRules_any wr A c xs (hS0.ext hwr) (by omega) (by omega)).mono ?_
      rintro e w1 ⟨v1, rfl, hown, hE1⟩
      have hlen : (xs ++ marks 5).length = xs.length + 5 := by rw [List.length_append, marks_len]
      obtain ⟨g, c1, rfl, hc1, hcm, hS1⟩ := own_rules_ne (l := xs ++ marks 5) (by rw [hlen]; exact hown) (by omega)
      rw [hlen] at hc1 hS1 ⊢
      have hT := sl_take hS1
      have hX1 := hwr.trans hE1
      have hSA := hS0.ext hX1
      obtain ⟨cv, hcv⟩ : ∃ cv, checkRulesG xs = cv := ⟨_, rfl⟩
      obtain ⟨av, hav⟩ : ∃ av, allowedG xs q s = av := ⟨_, rfl⟩
      have hC1 := fun w' (hE : Ext w1 w') => checkRules_any w' (some ⟨g, 0, none⟩) c1 xs (hT.ext hE) (by omega) hn hp
      have hC2 := fun w' (hE : Ext w1 w') => refcheckRules_any w' A c xs (hSA.ext hE) hc hn hp
      have hA1 := fun w' (hE : Ext w1 w') => allowed_any w' (some ⟨g, 0, none⟩) c1 xs (hT.ext hE) (by omega) hn hp q s
      have hA2 := fun w' (hE : Ext w1 w') => refallowed_any w' A c xs (hSA.ext hE) hc hn hp q s hrw hq
      have hK := fun w' (hE : Ext w1 w') => keptRules_any w' A c xs (hSA.ext hE) hc (by omega) g c1 (hS1.ext hE) hc1 hcm
      rw [hcv] at hC1 hC2
      rw [hav] at hA1 hA2
      have hY0 : Ext w1 w1 := Ext.refl w1
      have hnx : xs.length ≤ 200 := by omega
      unfold maxLen at hcm
      clear hT hSA hS1 hS0 hS hcv hav hlen hown hp hd hX0 hE1 hrw
      clear hwr
      go_wp2_with (first | (go_at_call 26; (with_reducible refine (hC1 _ (by assumption)).mono ?_); rintro e w' ⟨rfl, hb⟩; have hX : Ext w1 w' := (by (repeat (first | assumption | exact Ext.refl _ | refine Ext.drew ?_ | refine Ext.alloc ?_ _ | refine Ext.drewN ?_ _ | refine Ext.trans ?_ (by assumption))))) | (go_at_call 27; (with_reducible refine (hC2 _ (by assumption)).mono ?_); rintro e w' ⟨rfl, hb⟩; have hX : Ext w1 w' := (by (repeat (first | assumption | exact Ext.refl _ | refine Ext.drew ?_ | refine Ext.alloc ?_ _ | refine Ext.drewN ?_ _ | refine Ext.trans ?_ (by assumption))))) | (go_at_call 24; (with_reducible refine (hA1 _ (by assumption)).mono ?_); rintro e w' ⟨rfl, hb⟩; have hX : Ext w1 w' := (by (repeat (first | assumption | exact Ext.refl _ | refine Ext.drew ?_ | refine Ext.alloc ?_ _ | refine Ext.drewN ?_ _ | refine Ext.trans ?_ (by assumption))))) | (go_at_call 28; (with_reducible refine (hA2 _ (by assumption)).mono ?_); rintro e w' ⟨rfl, hb⟩; have hX : Ext w1 w' := (by (repeat (first | assumption | exact Ext.refl _ | refine Ext.drew ?_ | refine Ext.alloc ?_ _ | refine Ext.drewN ?_ _ | refine Ext.trans ?_ (by assumption))))) | (go_at_call 29; (with_reducible refine (hK _ (by assumption)).mono ?_); rintro e w' ⟨rfl, hb⟩; have hX : Ext w1 w' := (by (repeat (first | assumption | exact Ext.refl _ | refine Ext.drew ?_ | refine Ext.alloc ?_ _ | refine Ext.drewN ?_ _ | refine Ext.trans ?_ (by assumption))))) | (go_at_call 10; (with_reducible refine (works_any _).mono ?_); rintro e w' ⟨rfl, hb⟩; have hX : Ext w1 w' := (by (repeat (first | assumption | exact Ext.refl _ | refine Ext.drew ?_ | refine Ext.alloc ?_ _ | refine Ext.drewN ?_ _ | refine Ext.trans ?_ (by assumption))))))
      go_ret
      exact ⟨rfl, hX1.trans (by (repeat (first | assumption | exact Ext.refl _ | refine Ext.drew ?_ | refine Ext.alloc ?_ _ | refine Ext.drewN ?_ _ | refine Ext.trans ?_ (by assumption))))⟩
end Go.Proofs.YtmdjndhebgnjoaaDoor
