/- Rules, the plain law: a rule that changes nothing, or decides. -/
import Derived.Test.YtmdjndhebgnjoaaDoorRulesC
import Derived.Test.YtmdjndhebgnjoaaDoorRightPure
namespace Go.Proofs.YtmdjndhebgnjoaaDoor
set_option linter.unusedVariables false
set_option linter.unusedSimpArgs false
open Go.RowKit
theorem bestR_app (s : ByteArray) : ∀ (l m : List Rule) (a : Option Rule), bestR s a (l ++ m) = bestR s (bestR s a l) m
  | [], m, a => rfl
  | x :: l, m, a => bestR_app s l m _
theorem bestR_le (s : ByteArray) : ∀ (l : List Rule) (a : Option Rule), lenO a ≤ lenO (bestR s a l)
  | [], a => Int.le_refl _
  | x :: l, a => by
    show lenO a ≤ lenO (bestR s (if lenO a < x.p.size ∧ pre s x.p = true then some x else a) l)
    refine Int.le_trans ?_ (bestR_le s l _)
    split
    · rename_i h; exact Int.le_of_lt h.1
    · exact Int.le_refl _
theorem bestR_mem (s : ByteArray) : ∀ (l : List Rule) (a : Option Rule) (x : Rule), x ∈ l → pre s x.p = true → (x.p.size : Int) ≤ lenO (bestR s a l)
  | y :: l, a, x, hx, hp => by
    show (x.p.size : Int) ≤ lenO (bestR s (if lenO a < y.p.size ∧ pre s y.p = true then some y else a) l)
    rcases List.mem_cons.1 hx with rfl | hx
    · refine Int.le_trans ?_ (bestR_le s l _)
      by_cases h : lenO a < x.p.size
      · rw [if_pos ⟨h, hp⟩]; exact Int.le_refl _
      · rw [if_neg (fun k => h k.1)]; omega
    · exact bestR_mem s l _ x hx hp
theorem bestR_lt (s : ByteArray) (b : Int) : ∀ (l : List Rule) (a : Option Rule), (∀ x ∈ l, pre s x.p = true → (x.p.size : Int) < b) → lenO a < b → lenO (bestR s a l) < b
  | [], a, _, h => h
  | y :: l, a, hx, h => by
    show lenO (bestR s (if lenO a < y.p.size ∧ pre s y.p = true then some y else a) l) < b
    refine bestR_lt s b l _ (fun x h => hx x (List.mem_cons_of_mem _ h)) ?_
    split
    · rename_i k; exact hx y (List.mem_cons_self ..) k.2
    · exact h
theorem bestR_stays (s : ByteArray) : ∀ (l : List Rule) (a : Option Rule), (∀ x ∈ l, pre s x.p = true → (x.p.size : Int) ≤ lenO a) → bestR s a l = a
  | [], a, _ => rfl
  | y :: l, a, hx => by
    show bestR s (if lenO a < y.p.size ∧ pre s y.p = true then some y else a) l = a
    rw [if_neg (fun k => by have := hx y (List.mem_cons_self ..) k.2; omega)]
    exact bestR_stays s l a (fun x h => hx x (List.mem_cons_of_mem _ h))
theorem pre_size {s p : ByteArray} (h : pre s p = true) : p.size ≤ s.size := by
  rcases Nat.lt_or_ge s.size p.size with h1 | h1
  · rw [pre_long s p (by omega)] at h; cases h
  · exact h1
theorem pre_eq {s p : ByteArray} (h : pre s p = true) (hs : p.size = s.size) : p = s := by
  have h1 := (pre_iff s p).1 h
  have h2 : p.data.toList = s.data.toList := h1.eq_of_length (by rw [Array.length_toList, Array.length_toList]; exact hs)
  cases p; cases s; simp at h2; simp [Array.ext', h2]
/-- A rule that the stream does not begin with changes nothing. -/
theorem added_not (xs : List Rule) (r : Rule) (i : Nat) (q : Int) (s : ByteArray) (h : pre s r.p = false) : allowedG (xs.take i ++ r :: xs.drop i) q s = allowedG xs q s := by
  unfold allowedG
  have e : bestR s none xs = bestR s (bestR s none (xs.take i)) (xs.drop i) := by rw [← bestR_app, List.take_append_drop]
  rw [e, bestR_app]
  show okO q (bestR s (if _ ∧ pre s r.p = true then some r else _) (xs.drop i)) = _
  rw [if_neg (fun k => by rw [h] at k; cases k.2)]
/-- One behind a rule of the same prefix changes nothing. -/
theorem added_same (xs : List Rule) (r : Rule) (q : Int) (s : ByteArray) (h : ∃ x ∈ xs, x.p = r.p) : allowedG (xs ++ [r]) q s = allowedG xs q s := by
  unfold allowedG
  rw [bestR_app]
  obtain ⟨x, hx, he⟩ := h
  rw [bestR_stays s [r] _ (fun y hy hp => by
    obtain rfl : y = r := by simpa using hy
    rw [← he] at hp ⊢
    exact bestR_mem s xs none x hx hp)]
/-- One whose prefix is the stream, and that no other rule has, decides. -/
theorem added_new (xs : List Rule) (r : Rule) (i : Nat) (q : Int) (s : ByteArray) (h : ∀ x ∈ xs, x.p ≠ r.p) (hr : r.p = s) : allowedG (xs.take i ++ r :: xs.drop i) q s = hasR r.r q := by
  unfold allowedG
  have hlt : ∀ x ∈ xs, pre s x.p = true → (x.p.size : Int) < s.size := fun x hx hp => by
    have h1 := pre_size hp
    have h2 : x.p.size ≠ s.size := fun e => h x hx (by rw [hr]; exact pre_eq hp e)
    omega
  rw [bestR_app]
  show okO q (bestR s (if lenO (bestR s none (xs.take i)) < r.p.size ∧ pre s r.p = true then some r else _) (xs.drop i)) = _
  rw [if_pos ⟨by
    rw [hr]
    refine bestR_lt s _ _ none (fun x hx => hlt x (List.mem_of_mem_take hx)) ?_
    simp only [lenO]; omega, by rw [hr]; exact pre_refl s⟩]
  rw [bestR_stays s _ _ (fun x hx hp => by
    have := hlt x (List.mem_of_mem_drop hx) hp
    simp only [lenO]; rw [hr]; omega)]
  rfl
end Go.Proofs.YtmdjndhebgnjoaaDoor
