/- Rules in memory of their own: copies, what is lent, whether it was kept. -/
import Derived.Test.YtmdjndhebgnjoaaDoorRulesC
import Derived.Test.YtmdjndhebgnjoaaDoorOwn
namespace Go.Proofs.YtmdjndhebgnjoaaDoor
set_option linter.unusedVariables false
set_option linter.unusedSimpArgs false
open Go.RowKit Go.Shelf
def encRule (x : Rule) : List Value := [.string x.p, .int .i64 x.r]
theorem encRule_K (w : World) (x : Rule) : rdRule.K w x (encRule x) := ⟨_, _, rfl, rfl, rfl⟩
theorem encRule_len (x : Rule) : (encRule x).length = rdRule.sz := rfl
theorem own_rules {w : World} {base : Nat} {e : TypeId} {v : Value} {l : List Rule} (h : w.ownsRow base e 2 v l.length (l.flatMap encRule)) : ∃ A c, v = .slice A l.length c ∧ l.length ≤ c ∧ rdRule.Sl w A l.length l :=
  own_sl encRule_len encRule_K h
theorem info_rule : (Tryd.prog.info? 40).map (fun i => (i.zero, i.size, i.bytes)) = some (some (.agg #[.string ⟨#[]⟩, .int .i64 0]), 2, 24) := by kernel_rfl
theorem take_one {l : List Rule} {k : Nat} (h : k < l.length) : (l.take (k + 1)).flatMap encRule = (l.take k).flatMap encRule ++ [.string l[k].p, .int .i64 l[k].r] := by
  rw [List.take_succ_eq_append_getElem h, List.flatMap_append]
  rfl
set_option maxHeartbeats 1000000 in
set_option maxRecDepth 100000 in
theorem copyRules_any (w : World) (A : Option Addr) (c : Nat) (xs : List Rule) (hS : rdRule.Sl w A xs.length xs) (hc : xs.length ≤ c) (hn : xs.length ≤ 1000000) : Calls Tryd.prog 23 #[.slice A xs.length c] w fun e w' => ∃ v, e = .returned v ∧ w'.ownsRow w.heap.size 40 2 v xs.length (xs.flatMap encRule) ∧ Ext w w' := by
  obtain ⟨i0, hi, hz0, hz1, hz2⟩ := info_parts info_rule
  obtain ⟨n, hxn⟩ : ∃ n, xs.length = n := ⟨_, rfl⟩
  rw [hxn] at hS hn hc ⊢
  go_enter Tryd.func23, Tryd.ntmps23
  go_wp2_with fail
  go_loopw [3, 4] (fun s3 i wr => ∃ k : Nat, k ≤ n ∧ i = .int .i64 k ∧ wr.ownsRow w.heap.size 40 2 s3 k ((xs.take k).flatMap encRule) ∧ Ext w wr) (fun _ i _ => n - (intOf i).toNat)
  case atStart => exact ⟨0, by omega, rfl, World.ownsRow_nil _ _ _ _, Ext.refl _⟩
  case round =>
    obtain ⟨k, hkn, rfl, hown, hwr⟩ := hrel
    by_cases hlt : k < n
    · have HX := (hS.ext hwr).get k hlt
      have htk := take_one (l := xs) (k := k) (by omega)
      obtain ⟨b, o, cs, rfl, hk, hcell⟩ := HX
      have hcs := rdRule_cells hk
      generalize hx : xs[k]'(by omega) = x at *
      subst hcs
      have x0 : wr.cell? ⟨b, o + k * 2, none⟩ = some (.string x.p) := hcell 0 _ rfl
      have x1 : wr.cell? ⟨b, o + k * 2 + 1, none⟩ = some (.int .i64 x.r) := hcell 1 _ rfl
      clear hcell hx hk
      go_wp2_with (at_builtin; refine wpList_append_own _ rfl _ _ 38 rfl w.heap.size 40 i0 _ 2 24 Tryd.underlying38 hi hz0 hz1 hz2 rfl (by decide) _ _ _ rfl (hown.alloc _) ⟨_, 0, none⟩ 1 1 [.string x.p, .int .i64 x.r] rfl rfl ?c1 ?c2 ?c3 ?c4 ?c5 ?_)
      case c1 => exact fun j u h => new_cells wr _ #[.string x.p, .int .i64 x.r] j u h
      case c2 => intro u hu; simp at hu; rcases hu with rfl | rfl <;> rfl
      case c3 => unfold maxLen; omega
      case c4 => omega
      case c5 => have := hwr.le; simp; omega
      · intro v' w1 hown' hgrow _
        have hE := grown_ext (hwr.alloc _) (hown.alloc _) hgrow
        rw [← htk] at hown'
        clear hown hgrow x0 x1 htk
        go_wp2_with fail
        go_roundw
        case rel => exact ⟨k + 1, by omega, by go_num, hown', hE⟩
        case measure => simp [intOf]; omega
    · obtain rfl : k = n := by omega
      rw [← hxn, List.take_length] at hown
      rw [hxn] at hown
      go_wp2_with fail
      go_ret
      exact ⟨_, rfl, hown, hwr⟩
def markR (k : Nat) : Rule := ⟨⟨#[]⟩, -9 - k⟩
def marks (k : Nat) : List Rule := (List.range k).map markR
theorem marks_len (k : Nat) : (marks k).length = k := by simp [marks]
theorem marks_one (xs : List Rule) (k : Nat) : (xs ++ marks (k + 1)).flatMap encRule = (xs ++ marks k).flatMap encRule ++ [.string ⟨#[]⟩, .int .i64 (-9 - k)] := by
  simp [marks, List.range_succ, List.flatMap_append, encRule, markR]
set_option maxHeartbeats 1000000 in
set_option maxRecDepth 100000 in
theorem mark_any (k : Nat) (hk : k ≤ 4) (w : World) : Calls Tryd.prog 43 #[.int .i64 k] w fun e w' => e = .returned (.agg #[.string ⟨#[]⟩, .int .i64 (-9 - k)]) ∧ Ext w w' := by
  have hwk : wrap64 (-9 - (k : Int)) = -9 - (k : Int) := IntWalk.wrap64_in _ ⟨by omega, by omega⟩
  go_enter Tryd.func43, Tryd.ntmps43
  go_wp2_with fail
  exact bodyPost_ret (v := .agg #[.string ⟨#[]⟩, .int .i64 (-9 - k)]) (by simp [results, Tryd.results43, go_sem]) rfl ⟨rfl, by (repeat (first | assumption | exact Ext.refl _ | refine Ext.drew ?_ | refine Ext.alloc ?_ _ | refine Ext.drewN ?_ _ | refine Ext.trans ?_ (by assumption)))⟩
set_option maxHeartbeats 1000000 in
set_option maxRecDepth 100000 in
theorem same_any (w : World) (A : Option Addr) (c : Nat) (xs : List Rule) (hS : rdRule.Sl w A xs.length xs) (hc : xs.length ≤ c) (hn : xs.length ≤ 1000000) (A2 : Option Addr) (c2 : Nat) (hS2 : rdRule.Sl w A2 xs.length xs) (hc2 : xs.length ≤ c2) : Calls Tryd.prog 44 #[.slice A xs.length c, .slice A2 xs.length c2] w fun e w' => e = .returned (.bool true) ∧ Ext w w' := by
  obtain ⟨n, hxn⟩ : ∃ n, xs.length = n := ⟨_, rfl⟩
  rw [hxn] at hS hn hc hS2 hc2 ⊢
  go_enter Tryd.func44, Tryd.ntmps44
  go_wp2_with fail
  go_loopw [5] (fun i wr => ∃ k : Nat, k ≤ n ∧ i = .int .i64 k ∧ Ext w wr) (fun i _ => n - (intOf i).toNat)
  case atStart => exact ⟨0, by omega, rfl, Ext.refl _⟩
  case round =>
    obtain ⟨k, hkn, rfl, hwr⟩ := hrel
    by_cases hlt : k < n
    · have HX := (hS.ext hwr).get k hlt
      have HY := (hS2.ext hwr).get k hlt
      obtain ⟨b2, o2, cs2, rfl, hk2, hcell2⟩ := HY
      have hcs2 := rdRule_cells hk2
      obtain ⟨b, o, cs, rfl, hk, hcell⟩ := HX
      have hcs := rdRule_cells hk
      generalize hx : xs[k]'(by omega) = x at *
      subst hcs
      have x0 : wr.cell? ⟨b, o + k * 2, none⟩ = some (.string x.p) := hcell 0 _ rfl
      have x1 : wr.cell? ⟨b, o + k * 2 + 1, none⟩ = some (.int .i64 x.r) := hcell 1 _ rfl
      subst hcs2
      have y0 : wr.cell? ⟨b2, o2 + k * 2, none⟩ = some (.string x.p) := hcell2 0 _ rfl
      have y1 : wr.cell? ⟨b2, o2 + k * 2 + 1, none⟩ = some (.int .i64 x.r) := hcell2 1 _ rfl
      clear hcell hx hk hcell2 hk2
      go_upto_region 6 with fail
      go_quiet (fail)
      all_goals
        go_wp2_with fail
        go_roundw
        case rel => exact ⟨k + 1, by omega, by go_num, by (repeat (first | assumption | exact Ext.refl _ | refine Ext.drew ?_ | refine Ext.alloc ?_ _ | refine Ext.drewN ?_ _ | refine Ext.trans ?_ (by assumption)))⟩
        case measure => simp [intOf]; omega
    · obtain rfl : k = n := by omega
      go_wp2_with fail
      go_ret
      exact ⟨rfl, hwr⟩
end Go.Proofs.YtmdjndhebgnjoaaDoor
