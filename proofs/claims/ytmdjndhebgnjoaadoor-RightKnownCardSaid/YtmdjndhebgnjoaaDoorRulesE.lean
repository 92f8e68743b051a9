/- Rules that are lent, and whether they were kept. -/
import Derived.Test.YtmdjndhebgnjoaaDoorRulesD
namespace Go.Proofs.YtmdjndhebgnjoaaDoor
set_option linter.unusedVariables false
set_option linter.unusedSimpArgs false
open Go.RowKit Go.Shelf
set_option maxHeartbeats 1000000 in
set_option maxRecDepth 100000 in
theorem lentRules_any (w : World) (A : Option Addr) (c : Nat) (xs : List Rule) (hS : rdRule.Sl w A xs.length xs) (hc : xs.length ≤ c) (hn : xs.length ≤ 1000000) : Calls Tryd.prog 25 #[.slice A xs.length c] w fun e w' => ∃ v, e = .returned v ∧ w'.ownsRow w.heap.size 40 2 v (xs.length + 5) ((xs ++ marks 5).flatMap encRule) ∧ Ext w w' := by
  obtain ⟨i0, hi, hz0, hz1, hz2⟩ := info_parts info_rule
  go_enter Tryd.func25, Tryd.ntmps25
  go_wp2_with fail
  refine (copyRules_any w A c xs hS hc hn).mono ?_
  rintro e w1 ⟨v1, rfl, hown1, hE1⟩
  obtain ⟨n, hxn⟩ : ∃ n, xs.length = n := ⟨_, rfl⟩
  rw [hxn] at hS hn hc hown1 ⊢
  go_wp2_with fail
  go_loopw [3, 4] (fun s3 i wr => ∃ k : Nat, k ≤ 5 ∧ i = .int .i64 k ∧ wr.ownsRow w.heap.size 40 2 s3 (n + k) ((xs ++ marks k).flatMap encRule) ∧ Ext w wr) (fun _ i _ => 5 - (intOf i).toNat)
  case atStart => exact ⟨0, by omega, rfl, by simpa [marks] using hown1, hE1⟩
  case round =>
    clear hown1 hE1
    obtain ⟨k, hkn, rfl, hown, hwr⟩ := hrel
    by_cases hlt : k < 5
    · have htk := marks_one xs k
      go_wp2_with (first | (go_at_call 43; (with_reducible refine (mark_any k (by omega) _).mono ?_); rintro e w2 ⟨rfl, hb⟩) | (at_builtin; refine wpList_append_own _ rfl _ _ 38 rfl w.heap.size 40 i0 _ 2 24 Tryd.underlying38 hi hz0 hz1 hz2 rfl (by decide) _ _ _ rfl ((own_ext hown hb).alloc _) ⟨_, 0, none⟩ 1 1 [.string ⟨#[]⟩, .int .i64 (-9 - k)] rfl rfl ?c1 ?c2 ?c3 ?c4 ?c5 ?_))
      case c1 => exact fun j u h => new_cells w2 _ #[.string ⟨#[]⟩, .int .i64 (-9 - k)] j u h
      case c2 => intro u hu; simp at hu; rcases hu with rfl | rfl <;> rfl
      case c3 => unfold maxLen; omega
      case c4 => omega
      case c5 => have := hwr.le; have := hb.le; simp; omega
      · intro v' w3 hown' hgrow _
        have hE := grown_ext ((hwr.trans hb).alloc _) ((own_ext hown hb).alloc _) hgrow
        have hown2 : w3.ownsRow w.heap.size 40 2 v' (n + (k + 1)) ((xs ++ marks (k + 1)).flatMap encRule) := by
          rw [htk]
          simpa [Nat.add_assoc] using hown'
        clear hown hgrow htk hown'
        go_wp2_with fail
        go_roundw
        case rel => exact ⟨k + 1, by omega, by go_num, hown2, hE⟩
        case measure => simp [intOf]; omega
    · obtain rfl : k = 5 := by omega
      go_wp2_with fail
      go_ret
      exact ⟨_, rfl, by rw [hxn]; exact hown, hwr⟩
theorem sl_take {w : World} {A : Option Addr} {xs ys : List Rule} {m : Nat} (h : rdRule.Sl w A m (xs ++ ys)) : rdRule.Sl w A xs.length xs := by
  refine ⟨rfl, fun h0 => ?_⟩
  have hl := h.1
  rw [List.length_append] at hl
  obtain ⟨b, o, e, hc⟩ := h.2 (by omega)
  refine ⟨b, o, e, fun i hi => ?_⟩
  obtain ⟨cs, hk, hcell⟩ := hc i (by rw [List.length_append]; omega)
  rw [List.getElem_append_left hi] at hk
  exact ⟨cs, hk, hcell⟩
theorem sl_drop {w : World} {b o : Nat} {xs ys : List Rule} {m : Nat} (h : rdRule.Sl w (some ⟨b, o, none⟩) m (xs ++ ys)) : rdRule.Sl w (some ⟨b, o + xs.length * 2, none⟩) ys.length ys := by
  refine ⟨rfl, fun h0 => ?_⟩
  have hl := h.1
  rw [List.length_append] at hl
  obtain ⟨b', o', e, hc⟩ := h.2 (by omega)
  injection e with e
  injection e with e1 e2 e3
  subst e1 e2
  refine ⟨b, o + xs.length * 2, rfl, fun i hi => ?_⟩
  obtain ⟨cs, hk, hcell⟩ := hc (xs.length + i) (by rw [List.length_append]; omega)
  rw [List.getElem_append_right (by omega)] at hk
  simp only [Nat.add_sub_cancel_left] at hk
  refine ⟨cs, hk, fun j u hu => ?_⟩
  have := hcell j u hu
  rw [show o + xs.length * 2 + i * rdRule.sz + j = o + (xs.length + i) * rdRule.sz + j by show o + xs.length * 2 + i * 2 + j = o + (xs.length + i) * 2 + j; omega]
  exact this
set_option maxHeartbeats 1000000 in
set_option maxRecDepth 100000 in
theorem keptRules_any (w : World) (A : Option Addr) (c : Nat) (xs : List Rule) (hS : rdRule.Sl w A xs.length xs) (hc : xs.length ≤ c) (hn : xs.length ≤ 1000000) (g c1 : Nat) (hS1 : rdRule.Sl w (some ⟨g, 0, none⟩) (xs.length + 5) (xs ++ marks 5)) (hc1 : xs.length + 5 ≤ c1) (hcm : c1 ≤ maxLen) : Calls Tryd.prog 29 #[.slice (some ⟨g, 0, none⟩) (xs.length + 5) c1, .slice A xs.length c] w fun e w' => e = .returned (.bool true) ∧ Ext w w' := by
  obtain ⟨i0, hi, hz0, hz1, hz2⟩ := info_parts info_rule
  have hT := sl_take hS1
  have hD := sl_drop hS1
  have hY := fun w' c2 (hE : Ext w w') (h2 : xs.length ≤ c2) => same_any w' (some ⟨g, 0, none⟩) c2 xs (hT.ext hE) h2 hn A c (hS.ext hE) hc
  have hZ := fun w' c2 (hE : Ext w w') (h2 : (marks 5).length ≤ c2) A3 c3 (hS3 : rdRule.Sl w' A3 (marks 5).length (marks 5)) (h3 : (marks 5).length ≤ c3) => same_any w' (some ⟨g, 0 + xs.length * 2, none⟩) c2 (marks 5) (hD.ext hE) h2 (by rw [marks_len]; omega) A3 c3 hS3 h3
  rw [marks_len] at hZ
  obtain ⟨n, hxn⟩ : ∃ n, xs.length = n := ⟨_, rfl⟩
  rw [hxn] at hS hn hc hc1 hY hZ ⊢
  clear hS hS1 hT hD
  unfold maxLen at hcm
  have hwn : wrap64 ((n : Int) + 5) = (n : Int) + 5 := IntWalk.wrap64_in _ ⟨by omega, by omega⟩
  go_enter Tryd.func29, Tryd.ntmps29
  go_wp2_with (go_at_call 44; (with_reducible refine (hY _ _ (Ext.refl _) (by omega)).mono ?_); rintro e w1 ⟨rfl, hE1⟩)
  go_loopw [5, 6] (fun s3 i wr => ∃ k : Nat, k ≤ 5 ∧ i = .int .i64 k ∧ wr.ownsRow w.heap.size 40 2 s3 k ((marks k).flatMap encRule) ∧ Ext w wr) (fun _ i _ => 5 - (intOf i).toNat)
  case atStart => exact ⟨0, by omega, rfl, World.ownsRow_nil _ _ _ _, hE1⟩
  case round =>
    clear hE1
    obtain ⟨k, hkn, rfl, hown, hwr⟩ := hrel
    by_cases hlt : k < 5
    · have htk := marks_one [] k
      simp only [List.nil_append] at htk
      go_wp2_with (first | (go_at_call 43; (with_reducible refine (mark_any k (by omega) _).mono ?_); rintro e w2 ⟨rfl, hb⟩) | (at_builtin; refine wpList_append_own _ rfl _ _ 38 rfl w.heap.size 40 i0 _ 2 24 Tryd.underlying38 hi hz0 hz1 hz2 rfl (by decide) _ _ _ rfl ((own_ext hown hb).alloc _) ⟨_, 0, none⟩ 1 1 [.string ⟨#[]⟩, .int .i64 (-9 - k)] rfl rfl ?c1 ?c2 ?c3 ?c4 ?c5 ?_))
      case c1 => exact fun j u h => new_cells w2 _ #[.string ⟨#[]⟩, .int .i64 (-9 - k)] j u h
      case c2 => intro u hu; simp at hu; rcases hu with rfl | rfl <;> rfl
      case c3 => unfold maxLen; omega
      case c4 => omega
      case c5 => have := hwr.le; have := hb.le; simp; omega
      · intro v' w3 hown' hgrow _
        have hE := grown_ext ((hwr.trans hb).alloc _) ((own_ext hown hb).alloc _) hgrow
        have hown2 : w3.ownsRow w.heap.size 40 2 v' (k + 1) ((marks (k + 1)).flatMap encRule) := by
          rw [htk]
          simpa [Nat.add_assoc] using hown'
        clear hown hgrow htk hown'
        go_wp2_with fail
        go_roundw
        case rel => exact ⟨k + 1, by omega, by go_num, hown2, hE⟩
        case measure => simp [intOf]; omega
    · obtain rfl : k = 5 := by omega
      obtain ⟨A3, c3, rfl, hc3, hS3⟩ := own_rules (l := marks 5) (by rw [marks_len]; exact hown)
      rw [marks_len] at hc3 hS3
      go_wp2_with fail
      have hz := hZ wr (c1 - n) hwr (by omega) A3 c3 hS3 hc3
      simp only [Nat.zero_add] at hz
      rw [marks_len]
      refine hz.mono ?_
      rintro e w5 ⟨rfl, hE5⟩
      go_wp2_with fail
      go_ret
      exact ⟨rfl, hwr.trans hE5⟩
end Go.Proofs.YtmdjndhebgnjoaaDoor
