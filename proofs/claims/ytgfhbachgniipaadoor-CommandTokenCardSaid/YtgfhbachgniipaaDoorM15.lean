/- The first command of each kind. (and what follows) -/
import Derived.Test.YtgfhbachgniipaaDoorM9
import Derived.Test.YtgfhbachgniipaaDoorM8
/-! The first command of each kind. -/
namespace Go.Proofs.YtgfhbachgniipaaDoor
set_option linter.unusedVariables false
set_option linter.unusedSimpArgs false
open Go.RowKit
/-- The rows 7, 8, 9, ... -/
def rowB (n : Nat) : List UInt8 := (List.range n).map fun i => UInt8.ofNat ((7 + i) % 251)
theorem rowB_len (n : Nat) : (rowB n).length = n := by simp [rowB]
theorem rowB_snoc (n : Nat) : rowB (n + 1) = rowB n ++ [UInt8.ofNat ((7 + n) % 251)] := by
  unfold rowB
  rw [List.range_succ, List.map_append]
  rfl
set_option maxHeartbeats 1000000 in
set_option maxRecDepth 100000 in
theorem row_any (w : World) (n : Nat) (hn : n ≤ 1000000) : Calls Tryd.prog 15 #[.int .i64 n] w fun e w' => ∃ v, e = .returned v ∧ w'.ownsRow w.heap.size 5 1 v n ((rowB n).flatMap encB) ∧ Ext w w' := by
  go_enter Tryd.func15, Tryd.ntmps15
  go_wp2_with fail
  go_loopw [3, 4] (fun s3 i wr => ∃ k : Nat, k ≤ n ∧ i = .int .i64 k ∧ wr.ownsRow w.heap.size 5 1 s3 k ((rowB k).flatMap encB) ∧ Ext w wr) (fun _ i _ => n - (intOf i).toNat)
  case atStart => exact ⟨0, by omega, rfl, World.ownsRow_nil _ _ _ _, Ext.refl _⟩
  case round =>
    obtain ⟨k, hkn, rfl, hown, hwr⟩ := hrel
    by_cases hlt : k < n
    · have h1 : IntKind.i64.wrap (7 + (k : Int)) = 7 + (k : Int) := IntWalk.i64_in _ (by omega)
      have h2 : (7 + (k : Int)).tmod 251 = (((7 + k) % 251 : Nat) : Int) := by
        rw [Int.tmod_eq_emod_of_nonneg (by omega)]; omega
      have h3 : IntKind.i64.wrap (((7 + k) % 251 : Nat) : Int) = (((7 + k) % 251 : Nat) : Int) := IntWalk.i64_in _ (by omega)
      have h4 : IntKind.u8.wrap (((7 + k) % 251 : Nat) : Int) = ((UInt8.ofNat ((7 + k) % 251)).toNat : Int) := by
        rw [UInt8.toNat_ofNat']
        unfold IntKind.wrap
        simp [IntKind.signed, IntKind.bits]
      have hsn := rowB_snoc k
      generalize (((7 + k) % 251 : Nat) : Int) = z at *
      generalize UInt8.ofNat ((7 + k) % 251) = x at *
      go_wp2_with (at_builtin; refine wpList_append_cells (news := [.int .u8 x.toNat]) rfl elt_bytes (.tmp 10) (.tmp 15) rfl (hown.alloc _) rfl rfl ?c0 ?c1 ?c2 ?c3 ?c4 ?_)
      case c0 => exact ⟨rfl, (fun h => by cases h), fun ad h j u hu => (by cases h; exact new_cells wr _ #[.int .u8 x.toNat] j u hu)⟩
      case c1 => intro u hu; simp at hu; subst hu; rfl
      case c2 => unfold maxLen; omega
      case c3 => omega
      case c4 => have := hwr.le; simp; omega
      intro v' w1 hown' hgrow
      have hE := grown_ext (hwr.alloc _) (hown.alloc _) hgrow
      have hown2 : w1.ownsRow w.heap.size 5 1 v' (k + 1) ((rowB (k + 1)).flatMap encB) := by
        rw [hsn, List.flatMap_append]; simpa [encB] using hown'
      clear hown hgrow hown' hsn h1 h2 h3 h4
      go_wp2_with fail
      go_roundw
      case rel => exact ⟨k + 1, by omega, by go_num, hown2, hE⟩
      case measure => simp [intOf]; omega
    · obtain rfl : k = n := by omega
      go_wp2_with fail
      go_ret
      exact ⟨_, rfl, hown, hwr⟩

/-- The first command of a kind. -/
def askG (k : Nat) : Cmd := ⟨k, zTok, if hasF k 0 then ⟨#[108, 111, 103]⟩ else ⟨#[]⟩, if hasF k 1 then ⟨#[98, 111, 98]⟩ else ⟨#[]⟩, 0, if hasF k 3 then [[7, 8, 9]] else [], if hasF k 4 then 1 else 0, 0, if hasF k 6 then ⟨2, ⟨#[108, 111, 103]⟩, false, 0⟩ else zGrant, if hasF k 7 then 2 else 0⟩
theorem row_one {w : World} {g : Nat} {T : TypeId} {c : Nat} {A : Option Addr} {l : List UInt8} (B : Blk w g T #[.slice A l.length c]) (hc : l.length ≤ c) (h : Rd.u8.Sl w A l.length l) : rdB.Sl w (some ⟨g, 0, none⟩) 1 [l] := by
  refine ⟨rfl, fun _ => ⟨g, 0, rfl, fun i hi => ?_⟩⟩
  have hi0 : i = 0 := by simp at hi; omega
  subst hi0
  refine ⟨[.slice A l.length c], ⟨A, c, rfl, hc, h⟩, fun j u hu => ?_⟩
  have := B.cell j (v := u) (by simpa using hu)
  simpa using this
theorem ask_ok : ∀ k : Fin 9, k.1 ≠ 0 → cmdG (askG k.1) = 0 := by decide +kernel
set_option maxHeartbeats 9000000 in
set_option maxRecDepth 100000 in
theorem ask1_any (w : World) : Calls Tryd.prog 6 #[.int .i64 1] w fun e w' => ∃ C, e = .returned (.agg C) ∧ CmdAt w' (askG 1) C ∧ Ext w w' := by
  have hr0 : ∀ w', Calls Tryd.prog 14 #[.int .i64 1, .int .i64 0] w' fun e w'' => e = .returned (.bool true) ∧ Ext w' w'' := fun w' => rhas_any w' 1 0 (by decide) (by decide)
  have hr1 : ∀ w', Calls Tryd.prog 14 #[.int .i64 1, .int .i64 1] w' fun e w'' => e = .returned (.bool true) ∧ Ext w' w'' := fun w' => rhas_any w' 1 1 (by decide) (by decide)
  have hr3 : ∀ w', Calls Tryd.prog 14 #[.int .i64 1, .int .i64 3] w' fun e w'' => e = .returned (.bool true) ∧ Ext w' w'' := fun w' => rhas_any w' 1 3 (by decide) (by decide)
  have hr4 : ∀ w', Calls Tryd.prog 14 #[.int .i64 1, .int .i64 4] w' fun e w'' => e = .returned (.bool false) ∧ Ext w' w'' := fun w' => rhas_any w' 1 4 (by decide) (by decide)
  have hr6 : ∀ w', Calls Tryd.prog 14 #[.int .i64 1, .int .i64 6] w' fun e w'' => e = .returned (.bool false) ∧ Ext w' w'' := fun w' => rhas_any w' 1 6 (by decide) (by decide)
  have hr7 : ∀ w', Calls Tryd.prog 14 #[.int .i64 1, .int .i64 7] w' fun e w'' => e = .returned (.bool false) ∧ Ext w' w'' := fun w' => rhas_any w' 1 7 (by decide) (by decide)
  obtain ⟨W, hW, hE, -⟩ := box1 w #[.int .i64 0, .string ⟨#[]⟩, .int .i64 0, .slice none 0 0, .int .u8 0, .int .u8 0, .int .u8 0, .int .u8 0, .int .u8 0, .int .u8 0, .int .u8 0, .int .u8 0, .int .u8 0, .int .u8 0, .int .u8 0, .int .u8 0, .int .u8 0, .int .u8 0, .int .u8 0, .int .u8 0, .int .u8 0, .int .u8 0, .int .u8 0, .int .u8 0, .int .u8 0, .int .u8 0, .int .u8 0, .int .u8 0, .int .u8 0, .int .u8 0, .int .u8 0, .int .u8 0, .int .u8 0, .int .u8 0, .int .u8 0, .int .u8 0, .string ⟨#[]⟩, .string ⟨#[]⟩, .int .i64 0, .slice none 0 0, .int .i64 0, .int .i64 0, .int .i64 0, .string ⟨#[]⟩, .bool false, .int .i64 0, .int .i64 0] 32
  have B1 : Blk W w.heap.size 32 #[.int .i64 0, .string ⟨#[]⟩, .int .i64 0, .slice none 0 0, .int .u8 0, .int .u8 0, .int .u8 0, .int .u8 0, .int .u8 0, .int .u8 0, .int .u8 0, .int .u8 0, .int .u8 0, .int .u8 0, .int .u8 0, .int .u8 0, .int .u8 0, .int .u8 0, .int .u8 0, .int .u8 0, .int .u8 0, .int .u8 0, .int .u8 0, .int .u8 0, .int .u8 0, .int .u8 0, .int .u8 0, .int .u8 0, .int .u8 0, .int .u8 0, .int .u8 0, .int .u8 0, .int .u8 0, .int .u8 0, .int .u8 0, .int .u8 0, .string ⟨#[]⟩, .string ⟨#[]⟩, .int .i64 0, .slice none 0 0, .int .i64 0, .int .i64 0, .int .i64 0, .string ⟨#[]⟩, .bool false, .int .i64 0, .int .i64 0] := by rw [hW]; exact Blk.new _ _ _
  have hq1 : w.heap.size < W.heap.size := B1.lt
  obtain ⟨V, hr, BV, hEV⟩ := box_row W 32 #[.int .i64 0, .string ⟨#[]⟩, .int .i64 0, .slice none 0 0, .int .u8 0, .int .u8 0, .int .u8 0, .int .u8 0, .int .u8 0, .int .u8 0, .int .u8 0, .int .u8 0, .int .u8 0, .int .u8 0, .int .u8 0, .int .u8 0, .int .u8 0, .int .u8 0, .int .u8 0, .int .u8 0, .int .u8 0, .int .u8 0, .int .u8 0, .int .u8 0, .int .u8 0, .int .u8 0, .int .u8 0, .int .u8 0, .int .u8 0, .int .u8 0, .int .u8 0, .int .u8 0, .int .u8 0, .int .u8 0, .int .u8 0, .int .u8 0, .string ⟨#[]⟩, .string ⟨#[]⟩, .int .i64 0, .slice none 0 0, .int .i64 0, .int .i64 0, .int .i64 0, .string ⟨#[]⟩, .bool false, .int .i64 0, .int .i64 0] (cmdA ⟨1, zTok, ⟨#[]⟩, ⟨#[]⟩, 0, [], 0, 0, zGrant, 0⟩ (.slice none 0 0) (.slice none 0 0)) rfl (by kernel_rfl) (one_cmd _ _ _ rfl rfl)
  have F := hE.trans hEV
  have D := B1.ext hEV
  have hWs : W.heap.size = w.heap.size + 1 := by rw [hW]; simp
  rw [hWs] at hr BV hq1
  rw [hW] at hr
  clear hW
  go_enter Tryd.func6, Tryd.ntmps6
  go_upto_region 2 with (refine wpList_store_by rfl rfl ?_ ?_ hr ?_; (· rfl); (· rfl))
  clear hr B1 hE hEV hWs
  generalize w.heap.size + 1 = q at *
  go_upto_region 3 with (go_at_call 14; (with_reducible refine (hr0 _).mono ?_); rintro e u1 ⟨rfl, hE1⟩)
  have BV := BV.ext hE1
  have F := F.trans hE1
  have D := D.ext hE1
  clear hE1 hr0
  have cz := BV.cell 36 (v := .string ⟨#[]⟩) rfl
  have cf := BV.frozen 36
  go_upto_region 4 with fail
  have BV : Blk (u1.setCell ⟨q, 36, none⟩ (.string ⟨#[108, 111, 103]⟩)) q 32 (cmdA ⟨1, zTok, ⟨#[108, 111, 103]⟩, ⟨#[]⟩, 0, [], 0, 0, zGrant, 0⟩ (.slice none 0 0) (.slice none 0 0)) := by
    have e : (cmdA ⟨1, zTok, ⟨#[]⟩, ⟨#[]⟩, 0, [], 0, 0, zGrant, 0⟩ (.slice none 0 0) (.slice none 0 0)).setIfInBounds 36 (.string ⟨#[108, 111, 103]⟩) = cmdA ⟨1, zTok, ⟨#[108, 111, 103]⟩, ⟨#[]⟩, 0, [], 0, 0, zGrant, 0⟩ (.slice none 0 0) (.slice none 0 0) := by kernel_rfl
    rw [← e]; exact BV.set_ 36 _
  have F := Ext.set F (p := ⟨q, 36, none⟩) (Nat.le_of_lt hq1) (.string ⟨#[108, 111, 103]⟩)
  have D := D.far (p := ⟨q, 36, none⟩) (by show w.heap.size ≠ q; omega) (.string ⟨#[108, 111, 103]⟩)
  clear cz cf
  generalize u1.setCell ⟨q, 36, none⟩ (.string ⟨#[108, 111, 103]⟩) = s1 at *
  go_upto_region 5 with (go_at_call 14; (with_reducible refine (hr1 _).mono ?_); rintro e u2 ⟨rfl, hE2⟩)
  have BV := BV.ext hE2
  have F := F.trans hE2
  have D := D.ext hE2
  clear hE2 hr1
  have cz := BV.cell 37 (v := .string ⟨#[]⟩) rfl
  have cf := BV.frozen 37
  go_upto_region 6 with fail
  have BV : Blk (u2.setCell ⟨q, 37, none⟩ (.string ⟨#[98, 111, 98]⟩)) q 32 (cmdA ⟨1, zTok, ⟨#[108, 111, 103]⟩, ⟨#[98, 111, 98]⟩, 0, [], 0, 0, zGrant, 0⟩ (.slice none 0 0) (.slice none 0 0)) := by
    have e : (cmdA ⟨1, zTok, ⟨#[108, 111, 103]⟩, ⟨#[]⟩, 0, [], 0, 0, zGrant, 0⟩ (.slice none 0 0) (.slice none 0 0)).setIfInBounds 37 (.string ⟨#[98, 111, 98]⟩) = cmdA ⟨1, zTok, ⟨#[108, 111, 103]⟩, ⟨#[98, 111, 98]⟩, 0, [], 0, 0, zGrant, 0⟩ (.slice none 0 0) (.slice none 0 0) := by kernel_rfl
    rw [← e]; exact BV.set_ 37 _
  have F := Ext.set F (p := ⟨q, 37, none⟩) (Nat.le_of_lt hq1) (.string ⟨#[98, 111, 98]⟩)
  have D := D.far (p := ⟨q, 37, none⟩) (by show w.heap.size ≠ q; omega) (.string ⟨#[98, 111, 98]⟩)
  clear cz cf
  generalize u2.setCell ⟨q, 37, none⟩ (.string ⟨#[98, 111, 98]⟩) = s2 at *
  go_upto_region 7 with (go_at_call 14; (with_reducible refine (hr3 _).mono ?_); rintro e u3 ⟨rfl, hE3⟩)
  have BV := BV.ext hE3
  have F := F.trans hE3
  have D := D.ext hE3
  clear hE3 hr3
  have hqu : q < u3.heap.size := BV.lt
  have hro : Calls Tryd.prog 15 #[.int .i64 3] u3 fun e w' => ∃ v, e = .returned v ∧ w'.ownsRow u3.heap.size 5 1 v 3 ((rowB 3).flatMap encB) ∧ Ext u3 w' := row_any u3 3 (by decide)
  go_upto_region 8 with (go_at_call 15; (with_reducible refine hro.mono ?_); rintro e x3 ⟨v5, rfl, hown, hE5⟩; obtain ⟨A5, c5, hv5, h5c, -, h5S⟩ := own_bytes (lo := u3.heap.size) (hi := x3.heap.size) (l := [7, 8, 9]) hown (Nat.le_refl _) (Nat.le_refl _); subst hv5; have BA := (BV.ext hE5).alloc (.cells #[.slice A5 3 c5] 37); have cz := BA.cell 39 (v := .slice none 0 0) rfl; have cf := BA.frozen 39)
  obtain ⟨gb, hgb⟩ : ∃ z, x3.heap.size = z := ⟨_, rfl⟩
  have hgq : q < gb := by have := hE5.le; omega
  have Bb := Blk.new x3 37 #[.slice A5 3 c5]
  rw [hgb] at Bb ⊢
  have hEa : Ext u3 (x3.alloc (.cells #[.slice A5 3 c5] 37)) := hE5.alloc _
  have BV : Blk ((x3.alloc (.cells #[.slice A5 3 c5] 37)).setCell ⟨q, 39, none⟩ (.slice (some ⟨gb, 0, none⟩) 1 1)) q 32 (cmdA ⟨1, zTok, ⟨#[108, 111, 103]⟩, ⟨#[98, 111, 98]⟩, 0, [[7, 8, 9]], 0, 0, zGrant, 0⟩ (.slice none 0 0) (.slice (some ⟨gb, 0, none⟩) 1 1)) := by
    have e : (cmdA ⟨1, zTok, ⟨#[108, 111, 103]⟩, ⟨#[98, 111, 98]⟩, 0, [], 0, 0, zGrant, 0⟩ (.slice none 0 0) (.slice none 0 0)).setIfInBounds 39 (.slice (some ⟨gb, 0, none⟩) 1 1) = cmdA ⟨1, zTok, ⟨#[108, 111, 103]⟩, ⟨#[98, 111, 98]⟩, 0, [[7, 8, 9]], 0, 0, zGrant, 0⟩ (.slice none 0 0) (.slice (some ⟨gb, 0, none⟩) 1 1) := rfl
    rw [← e]; exact BA.set_ 39 _
  have F := Ext.set (F.trans hEa) (p := ⟨q, 39, none⟩) (Nat.le_of_lt hq1) (.slice (some ⟨gb, 0, none⟩) 1 1)
  have D := (D.ext hEa).far (p := ⟨q, 39, none⟩) (by show w.heap.size ≠ q; omega) (.slice (some ⟨gb, 0, none⟩) 1 1)
  have Bb := Bb.far (p := ⟨q, 39, none⟩) (by show gb ≠ q; omega) (.slice (some ⟨gb, 0, none⟩) 1 1)
  have hXq := set_exc (x3.alloc (.cells #[.slice A5 3 c5] 37)) q 39 (.slice (some ⟨gb, 0, none⟩) 1 1)
  have hgs : gb ≤ ((x3.alloc (.cells #[.slice A5 3 c5] 37)).setCell ⟨q, 39, none⟩ (.slice (some ⟨gb, 0, none⟩) 1 1)).heap.size := by rw [← hgb]; simp
  have hSb := (only_slx (only_sl h5S ((Ext.refl x3).alloc (.cells #[.slice A5 3 c5] 37)) (Nat.le_refl _)) hXq (by simp) (.inr (by omega)))
  rw [hgb] at hSb
  clear cz cf BA hEa hown hro h5S hXq hE5
  generalize (x3.alloc (.cells #[.slice A5 3 c5] 37)).setCell ⟨q, 39, none⟩ (.slice (some ⟨gb, 0, none⟩) 1 1) = s3 at *
  have G := Ext.refl s3
  go_upto_region 10 with (go_at_call 14; (with_reducible refine (hr4 _).mono ?_); rintro e u4 ⟨rfl, hE4⟩)
  have BV := BV.ext hE4
  have F := F.trans hE4
  have D := D.ext hE4
  have G := G.trans hE4
  have Bb := Bb.ext hE4
  clear hE4 hr4
  go_upto_region 12 with (go_at_call 14; (with_reducible refine (hr6 _).mono ?_); rintro e u5 ⟨rfl, hE5⟩)
  have BV := BV.ext hE5
  have F := F.trans hE5
  have D := D.ext hE5
  have G := G.trans hE5
  have Bb := Bb.ext hE5
  clear hE5 hr6
  go_upto_region 14 with (go_at_call 14; (with_reducible refine (hr7 _).mono ?_); rintro e u6 ⟨rfl, hE6⟩)
  have BV := BV.ext hE6
  have F := F.trans hE6
  have D := D.ext hE6
  have G := G.trans hE6
  have Bb := Bb.ext hE6
  clear hE6 hr7
  have hl := load_whole BV 32 _ Tryd.underlying32 rfl (by kernel_rfl)
  obtain ⟨wF, hr, BF, hXF⟩ := over_row D (C := cmdA ⟨1, zTok, ⟨#[108, 111, 103]⟩, ⟨#[98, 111, 98]⟩, 0, [[7, 8, 9]], 0, 0, zGrant, 0⟩ (.slice none 0 0) (.slice (some ⟨gb, 0, none⟩) 1 1)) rfl (by kernel_rfl) (one_cmd _ _ _ rfl rfl)
  go_wp2_with (first | (refine wpList_load_by rfl rfl ?_ hl ?_; (· rfl)) | (refine wpList_store_by rfl rfl ?_ ?_ hr ?_; (· rfl); (· rfl)))
  refine bodyPost_ret (v := .agg (cmdA ⟨1, zTok, ⟨#[108, 111, 103]⟩, ⟨#[98, 111, 98]⟩, 0, [[7, 8, 9]], 0, 0, zGrant, 0⟩ (.slice none 0 0) (.slice (some ⟨gb, 0, none⟩) 1 1))) (results_cell_row (P := Tryd.prog) (fn := Tryd.f6) rfl _ wF w.heap.size _ _ _ _ rfl BF Tryd.underlying32 rfl (by kernel_rfl)) rfl ?_
  have Bb := hXF.blk Bb (.inr (by omega))
  refine ⟨_, rfl, ⟨_, _, rfl, GsV.nil _, some ⟨gb, 0, none⟩, 1, rfl, Nat.le_refl _, ?_⟩, Exc.ext F hXF (Nat.le_refl _)⟩
  have hS6 := only_slx (only_sl hSb G hgs) hXF (Nat.le_trans hgs G.le) (.inr (by omega))
  exact row_one Bb h5c (hS6.mono only_cle)
set_option maxHeartbeats 9000000 in
set_option maxRecDepth 100000 in
theorem ask2_any (w : World) : Calls Tryd.prog 6 #[.int .i64 2] w fun e w' => ∃ C, e = .returned (.agg C) ∧ CmdAt w' (askG 2) C ∧ Ext w w' := by
  have hr0 : ∀ w', Calls Tryd.prog 14 #[.int .i64 2, .int .i64 0] w' fun e w'' => e = .returned (.bool true) ∧ Ext w' w'' := fun w' => rhas_any w' 2 0 (by decide) (by decide)
  have hr1 : ∀ w', Calls Tryd.prog 14 #[.int .i64 2, .int .i64 1] w' fun e w'' => e = .returned (.bool false) ∧ Ext w' w'' := fun w' => rhas_any w' 2 1 (by decide) (by decide)
  have hr3 : ∀ w', Calls Tryd.prog 14 #[.int .i64 2, .int .i64 3] w' fun e w'' => e = .returned (.bool false) ∧ Ext w' w'' := fun w' => rhas_any w' 2 3 (by decide) (by decide)
  have hr4 : ∀ w', Calls Tryd.prog 14 #[.int .i64 2, .int .i64 4] w' fun e w'' => e = .returned (.bool true) ∧ Ext w' w'' := fun w' => rhas_any w' 2 4 (by decide) (by decide)
  have hr6 : ∀ w', Calls Tryd.prog 14 #[.int .i64 2, .int .i64 6] w' fun e w'' => e = .returned (.bool false) ∧ Ext w' w'' := fun w' => rhas_any w' 2 6 (by decide) (by decide)
  have hr7 : ∀ w', Calls Tryd.prog 14 #[.int .i64 2, .int .i64 7] w' fun e w'' => e = .returned (.bool false) ∧ Ext w' w'' := fun w' => rhas_any w' 2 7 (by decide) (by decide)
  obtain ⟨W, hW, hE, -⟩ := box1 w #[.int .i64 0, .string ⟨#[]⟩, .int .i64 0, .slice none 0 0, .int .u8 0, .int .u8 0, .int .u8 0, .int .u8 0, .int .u8 0, .int .u8 0, .int .u8 0, .int .u8 0, .int .u8 0, .int .u8 0, .int .u8 0, .int .u8 0, .int .u8 0, .int .u8 0, .int .u8 0, .int .u8 0, .int .u8 0, .int .u8 0, .int .u8 0, .int .u8 0, .int .u8 0, .int .u8 0, .int .u8 0, .int .u8 0, .int .u8 0, .int .u8 0, .int .u8 0, .int .u8 0, .int .u8 0, .int .u8 0, .int .u8 0, .int .u8 0, .string ⟨#[]⟩, .string ⟨#[]⟩, .int .i64 0, .slice none 0 0, .int .i64 0, .int .i64 0, .int .i64 0, .string ⟨#[]⟩, .bool false, .int .i64 0, .int .i64 0] 32
  have B1 : Blk W w.heap.size 32 #[.int .i64 0, .string ⟨#[]⟩, .int .i64 0, .slice none 0 0, .int .u8 0, .int .u8 0, .int .u8 0, .int .u8 0, .int .u8 0, .int .u8 0, .int .u8 0, .int .u8 0, .int .u8 0, .int .u8 0, .int .u8 0, .int .u8 0, .int .u8 0, .int .u8 0, .int .u8 0, .int .u8 0, .int .u8 0, .int .u8 0, .int .u8 0, .int .u8 0, .int .u8 0, .int .u8 0, .int .u8 0, .int .u8 0, .int .u8 0, .int .u8 0, .int .u8 0, .int .u8 0, .int .u8 0, .int .u8 0, .int .u8 0, .int .u8 0, .string ⟨#[]⟩, .string ⟨#[]⟩, .int .i64 0, .slice none 0 0, .int .i64 0, .int .i64 0, .int .i64 0, .string ⟨#[]⟩, .bool false, .int .i64 0, .int .i64 0] := by rw [hW]; exact Blk.new _ _ _
  have hq1 : w.heap.size < W.heap.size := B1.lt
  obtain ⟨V, hr, BV, hEV⟩ := box_row W 32 #[.int .i64 0, .string ⟨#[]⟩, .int .i64 0, .slice none 0 0, .int .u8 0, .int .u8 0, .int .u8 0, .int .u8 0, .int .u8 0, .int .u8 0, .int .u8 0, .int .u8 0, .int .u8 0, .int .u8 0, .int .u8 0, .int .u8 0, .int .u8 0, .int .u8 0, .int .u8 0, .int .u8 0, .int .u8 0, .int .u8 0, .int .u8 0, .int .u8 0, .int .u8 0, .int .u8 0, .int .u8 0, .int .u8 0, .int .u8 0, .int .u8 0, .int .u8 0, .int .u8 0, .int .u8 0, .int .u8 0, .int .u8 0, .int .u8 0, .string ⟨#[]⟩, .string ⟨#[]⟩, .int .i64 0, .slice none 0 0, .int .i64 0, .int .i64 0, .int .i64 0, .string ⟨#[]⟩, .bool false, .int .i64 0, .int .i64 0] (cmdA ⟨2, zTok, ⟨#[]⟩, ⟨#[]⟩, 0, [], 0, 0, zGrant, 0⟩ (.slice none 0 0) (.slice none 0 0)) rfl (by kernel_rfl) (one_cmd _ _ _ rfl rfl)
  have F := hE.trans hEV
  have D := B1.ext hEV
  have hWs : W.heap.size = w.heap.size + 1 := by rw [hW]; simp
  rw [hWs] at hr BV hq1
  rw [hW] at hr
  clear hW
  go_enter Tryd.func6, Tryd.ntmps6
  go_upto_region 2 with (refine wpList_store_by rfl rfl ?_ ?_ hr ?_; (· rfl); (· rfl))
  clear hr B1 hE hEV hWs
  generalize w.heap.size + 1 = q at *
  go_upto_region 3 with (go_at_call 14; (with_reducible refine (hr0 _).mono ?_); rintro e u1 ⟨rfl, hE1⟩)
  have BV := BV.ext hE1
  have F := F.trans hE1
  have D := D.ext hE1
  clear hE1 hr0
  have cz := BV.cell 36 (v := .string ⟨#[]⟩) rfl
  have cf := BV.frozen 36
  go_upto_region 4 with fail
  have BV : Blk (u1.setCell ⟨q, 36, none⟩ (.string ⟨#[108, 111, 103]⟩)) q 32 (cmdA ⟨2, zTok, ⟨#[108, 111, 103]⟩, ⟨#[]⟩, 0, [], 0, 0, zGrant, 0⟩ (.slice none 0 0) (.slice none 0 0)) := by
    have e : (cmdA ⟨2, zTok, ⟨#[]⟩, ⟨#[]⟩, 0, [], 0, 0, zGrant, 0⟩ (.slice none 0 0) (.slice none 0 0)).setIfInBounds 36 (.string ⟨#[108, 111, 103]⟩) = cmdA ⟨2, zTok, ⟨#[108, 111, 103]⟩, ⟨#[]⟩, 0, [], 0, 0, zGrant, 0⟩ (.slice none 0 0) (.slice none 0 0) := by kernel_rfl
    rw [← e]; exact BV.set_ 36 _
  have F := Ext.set F (p := ⟨q, 36, none⟩) (Nat.le_of_lt hq1) (.string ⟨#[108, 111, 103]⟩)
  have D := D.far (p := ⟨q, 36, none⟩) (by show w.heap.size ≠ q; omega) (.string ⟨#[108, 111, 103]⟩)
  clear cz cf
  generalize u1.setCell ⟨q, 36, none⟩ (.string ⟨#[108, 111, 103]⟩) = s1 at *
  go_upto_region 6 with (go_at_call 14; (with_reducible refine (hr1 _).mono ?_); rintro e u2 ⟨rfl, hE2⟩)
  have BV := BV.ext hE2
  have F := F.trans hE2
  have D := D.ext hE2
  clear hE2 hr1
  go_upto_region 8 with (go_at_call 14; (with_reducible refine (hr3 _).mono ?_); rintro e u3 ⟨rfl, hE3⟩)
  have BV := BV.ext hE3
  have F := F.trans hE3
  have D := D.ext hE3
  clear hE3 hr3
  go_upto_region 9 with (go_at_call 14; (with_reducible refine (hr4 _).mono ?_); rintro e u4 ⟨rfl, hE4⟩)
  have BV := BV.ext hE4
  have F := F.trans hE4
  have D := D.ext hE4
  clear hE4 hr4
  have cz := BV.cell 40 (v := .int .i64 0) rfl
  have cf := BV.frozen 40
  go_upto_region 10 with fail
  have BV : Blk (u4.setCell ⟨q, 40, none⟩ (.int .i64 1)) q 32 (cmdA ⟨2, zTok, ⟨#[108, 111, 103]⟩, ⟨#[]⟩, 0, [], 1, 0, zGrant, 0⟩ (.slice none 0 0) (.slice none 0 0)) := by
    have e : (cmdA ⟨2, zTok, ⟨#[108, 111, 103]⟩, ⟨#[]⟩, 0, [], 0, 0, zGrant, 0⟩ (.slice none 0 0) (.slice none 0 0)).setIfInBounds 40 (.int .i64 1) = cmdA ⟨2, zTok, ⟨#[108, 111, 103]⟩, ⟨#[]⟩, 0, [], 1, 0, zGrant, 0⟩ (.slice none 0 0) (.slice none 0 0) := by kernel_rfl
    rw [← e]; exact BV.set_ 40 _
  have F := Ext.set F (p := ⟨q, 40, none⟩) (Nat.le_of_lt hq1) (.int .i64 1)
  have D := D.far (p := ⟨q, 40, none⟩) (by show w.heap.size ≠ q; omega) (.int .i64 1)
  clear cz cf
  generalize u4.setCell ⟨q, 40, none⟩ (.int .i64 1) = s4 at *
  go_upto_region 12 with (go_at_call 14; (with_reducible refine (hr6 _).mono ?_); rintro e u5 ⟨rfl, hE5⟩)
  have BV := BV.ext hE5
  have F := F.trans hE5
  have D := D.ext hE5
  clear hE5 hr6
  go_upto_region 14 with (go_at_call 14; (with_reducible refine (hr7 _).mono ?_); rintro e u6 ⟨rfl, hE6⟩)
  have BV := BV.ext hE6
  have F := F.trans hE6
  have D := D.ext hE6
  clear hE6 hr7
  have hl := load_whole BV 32 _ Tryd.underlying32 rfl (by kernel_rfl)
  obtain ⟨wF, hr, BF, hXF⟩ := over_row D (C := cmdA ⟨2, zTok, ⟨#[108, 111, 103]⟩, ⟨#[]⟩, 0, [], 1, 0, zGrant, 0⟩ (.slice none 0 0) (.slice none 0 0)) rfl (by kernel_rfl) (one_cmd _ _ _ rfl rfl)
  go_wp2_with (first | (refine wpList_load_by rfl rfl ?_ hl ?_; (· rfl)) | (refine wpList_store_by rfl rfl ?_ ?_ hr ?_; (· rfl); (· rfl)))
  refine bodyPost_ret (v := .agg (cmdA ⟨2, zTok, ⟨#[108, 111, 103]⟩, ⟨#[]⟩, 0, [], 1, 0, zGrant, 0⟩ (.slice none 0 0) (.slice none 0 0))) (results_cell_row (P := Tryd.prog) (fn := Tryd.f6) rfl _ wF w.heap.size _ _ _ _ rfl BF Tryd.underlying32 rfl (by kernel_rfl)) rfl ?_
  exact ⟨_, rfl, ⟨_, _, rfl, GsV.nil _, BsV.nil _⟩, Exc.ext F hXF (Nat.le_refl _)⟩
set_option maxHeartbeats 9000000 in
set_option maxRecDepth 100000 in
theorem ask3_any (w : World) : Calls Tryd.prog 6 #[.int .i64 3] w fun e w' => ∃ C, e = .returned (.agg C) ∧ CmdAt w' (askG 3) C ∧ Ext w w' := by
  have hr0 : ∀ w', Calls Tryd.prog 14 #[.int .i64 3, .int .i64 0] w' fun e w'' => e = .returned (.bool false) ∧ Ext w' w'' := fun w' => rhas_any w' 3 0 (by decide) (by decide)
  have hr1 : ∀ w', Calls Tryd.prog 14 #[.int .i64 3, .int .i64 1] w' fun e w'' => e = .returned (.bool false) ∧ Ext w' w'' := fun w' => rhas_any w' 3 1 (by decide) (by decide)
  have hr3 : ∀ w', Calls Tryd.prog 14 #[.int .i64 3, .int .i64 3] w' fun e w'' => e = .returned (.bool false) ∧ Ext w' w'' := fun w' => rhas_any w' 3 3 (by decide) (by decide)
  have hr4 : ∀ w', Calls Tryd.prog 14 #[.int .i64 3, .int .i64 4] w' fun e w'' => e = .returned (.bool true) ∧ Ext w' w'' := fun w' => rhas_any w' 3 4 (by decide) (by decide)
  have hr6 : ∀ w', Calls Tryd.prog 14 #[.int .i64 3, .int .i64 6] w' fun e w'' => e = .returned (.bool false) ∧ Ext w' w'' := fun w' => rhas_any w' 3 6 (by decide) (by decide)
  have hr7 : ∀ w', Calls Tryd.prog 14 #[.int .i64 3, .int .i64 7] w' fun e w'' => e = .returned (.bool false) ∧ Ext w' w'' := fun w' => rhas_any w' 3 7 (by decide) (by decide)
  obtain ⟨W, hW, hE, -⟩ := box1 w #[.int .i64 0, .string ⟨#[]⟩, .int .i64 0, .slice none 0 0, .int .u8 0, .int .u8 0, .int .u8 0, .int .u8 0, .int .u8 0, .int .u8 0, .int .u8 0, .int .u8 0, .int .u8 0, .int .u8 0, .int .u8 0, .int .u8 0, .int .u8 0, .int .u8 0, .int .u8 0, .int .u8 0, .int .u8 0, .int .u8 0, .int .u8 0, .int .u8 0, .int .u8 0, .int .u8 0, .int .u8 0, .int .u8 0, .int .u8 0, .int .u8 0, .int .u8 0, .int .u8 0, .int .u8 0, .int .u8 0, .int .u8 0, .int .u8 0, .string ⟨#[]⟩, .string ⟨#[]⟩, .int .i64 0, .slice none 0 0, .int .i64 0, .int .i64 0, .int .i64 0, .string ⟨#[]⟩, .bool false, .int .i64 0, .int .i64 0] 32
  have B1 : Blk W w.heap.size 32 #[.int .i64 0, .string ⟨#[]⟩, .int .i64 0, .slice none 0 0, .int .u8 0, .int .u8 0, .int .u8 0, .int .u8 0, .int .u8 0, .int .u8 0, .int .u8 0, .int .u8 0, .int .u8 0, .int .u8 0, .int .u8 0, .int .u8 0, .int .u8 0, .int .u8 0, .int .u8 0, .int .u8 0, .int .u8 0, .int .u8 0, .int .u8 0, .int .u8 0, .int .u8 0, .int .u8 0, .int .u8 0, .int .u8 0, .int .u8 0, .int .u8 0, .int .u8 0, .int .u8 0, .int .u8 0, .int .u8 0, .int .u8 0, .int .u8 0, .string ⟨#[]⟩, .string ⟨#[]⟩, .int .i64 0, .slice none 0 0, .int .i64 0, .int .i64 0, .int .i64 0, .string ⟨#[]⟩, .bool false, .int .i64 0, .int .i64 0] := by rw [hW]; exact Blk.new _ _ _
  have hq1 : w.heap.size < W.heap.size := B1.lt
  obtain ⟨V, hr, BV, hEV⟩ := box_row W 32 #[.int .i64 0, .string ⟨#[]⟩, .int .i64 0, .slice none 0 0, .int .u8 0, .int .u8 0, .int .u8 0, .int .u8 0, .int .u8 0, .int .u8 0, .int .u8 0, .int .u8 0, .int .u8 0, .int .u8 0, .int .u8 0, .int .u8 0, .int .u8 0, .int .u8 0, .int .u8 0, .int .u8 0, .int .u8 0, .int .u8 0, .int .u8 0, .int .u8 0, .int .u8 0, .int .u8 0, .int .u8 0, .int .u8 0, .int .u8 0, .int .u8 0, .int .u8 0, .int .u8 0, .int .u8 0, .int .u8 0, .int .u8 0, .int .u8 0, .string ⟨#[]⟩, .string ⟨#[]⟩, .int .i64 0, .slice none 0 0, .int .i64 0, .int .i64 0, .int .i64 0, .string ⟨#[]⟩, .bool false, .int .i64 0, .int .i64 0] (cmdA ⟨3, zTok, ⟨#[]⟩, ⟨#[]⟩, 0, [], 0, 0, zGrant, 0⟩ (.slice none 0 0) (.slice none 0 0)) rfl (by kernel_rfl) (one_cmd _ _ _ rfl rfl)
  have F := hE.trans hEV
  have D := B1.ext hEV
  have hWs : W.heap.size = w.heap.size + 1 := by rw [hW]; simp
  rw [hWs] at hr BV hq1
  rw [hW] at hr
  clear hW
  go_enter Tryd.func6, Tryd.ntmps6
  go_upto_region 2 with (refine wpList_store_by rfl rfl ?_ ?_ hr ?_; (· rfl); (· rfl))
  clear hr B1 hE hEV hWs
  generalize w.heap.size + 1 = q at *
  go_upto_region 4 with (go_at_call 14; (with_reducible refine (hr0 _).mono ?_); rintro e u1 ⟨rfl, hE1⟩)
  have BV := BV.ext hE1
  have F := F.trans hE1
  have D := D.ext hE1
  clear hE1 hr0
  go_upto_region 6 with (go_at_call 14; (with_reducible refine (hr1 _).mono ?_); rintro e u2 ⟨rfl, hE2⟩)
  have BV := BV.ext hE2
  have F := F.trans hE2
  have D := D.ext hE2
  clear hE2 hr1
  go_upto_region 8 with (go_at_call 14; (with_reducible refine (hr3 _).mono ?_); rintro e u3 ⟨rfl, hE3⟩)
  have BV := BV.ext hE3
  have F := F.trans hE3
  have D := D.ext hE3
  clear hE3 hr3
  go_upto_region 9 with (go_at_call 14; (with_reducible refine (hr4 _).mono ?_); rintro e u4 ⟨rfl, hE4⟩)
  have BV := BV.ext hE4
  have F := F.trans hE4
  have D := D.ext hE4
  clear hE4 hr4
  have cz := BV.cell 40 (v := .int .i64 0) rfl
  have cf := BV.frozen 40
  go_upto_region 10 with fail
  have BV : Blk (u4.setCell ⟨q, 40, none⟩ (.int .i64 1)) q 32 (cmdA ⟨3, zTok, ⟨#[]⟩, ⟨#[]⟩, 0, [], 1, 0, zGrant, 0⟩ (.slice none 0 0) (.slice none 0 0)) := by
    have e : (cmdA ⟨3, zTok, ⟨#[]⟩, ⟨#[]⟩, 0, [], 0, 0, zGrant, 0⟩ (.slice none 0 0) (.slice none 0 0)).setIfInBounds 40 (.int .i64 1) = cmdA ⟨3, zTok, ⟨#[]⟩, ⟨#[]⟩, 0, [], 1, 0, zGrant, 0⟩ (.slice none 0 0) (.slice none 0 0) := by kernel_rfl
    rw [← e]; exact BV.set_ 40 _
  have F := Ext.set F (p := ⟨q, 40, none⟩) (Nat.le_of_lt hq1) (.int .i64 1)
  have D := D.far (p := ⟨q, 40, none⟩) (by show w.heap.size ≠ q; omega) (.int .i64 1)
  clear cz cf
  generalize u4.setCell ⟨q, 40, none⟩ (.int .i64 1) = s4 at *
  go_upto_region 12 with (go_at_call 14; (with_reducible refine (hr6 _).mono ?_); rintro e u5 ⟨rfl, hE5⟩)
  have BV := BV.ext hE5
  have F := F.trans hE5
  have D := D.ext hE5
  clear hE5 hr6
  go_upto_region 14 with (go_at_call 14; (with_reducible refine (hr7 _).mono ?_); rintro e u6 ⟨rfl, hE6⟩)
  have BV := BV.ext hE6
  have F := F.trans hE6
  have D := D.ext hE6
  clear hE6 hr7
  have hl := load_whole BV 32 _ Tryd.underlying32 rfl (by kernel_rfl)
  obtain ⟨wF, hr, BF, hXF⟩ := over_row D (C := cmdA ⟨3, zTok, ⟨#[]⟩, ⟨#[]⟩, 0, [], 1, 0, zGrant, 0⟩ (.slice none 0 0) (.slice none 0 0)) rfl (by kernel_rfl) (one_cmd _ _ _ rfl rfl)
  go_wp2_with (first | (refine wpList_load_by rfl rfl ?_ hl ?_; (· rfl)) | (refine wpList_store_by rfl rfl ?_ ?_ hr ?_; (· rfl); (· rfl)))
  refine bodyPost_ret (v := .agg (cmdA ⟨3, zTok, ⟨#[]⟩, ⟨#[]⟩, 0, [], 1, 0, zGrant, 0⟩ (.slice none 0 0) (.slice none 0 0))) (results_cell_row (P := Tryd.prog) (fn := Tryd.f6) rfl _ wF w.heap.size _ _ _ _ rfl BF Tryd.underlying32 rfl (by kernel_rfl)) rfl ?_
  exact ⟨_, rfl, ⟨_, _, rfl, GsV.nil _, BsV.nil _⟩, Exc.ext F hXF (Nat.le_refl _)⟩
set_option maxHeartbeats 9000000 in
set_option maxRecDepth 100000 in
theorem ask4_any (w : World) : Calls Tryd.prog 6 #[.int .i64 4] w fun e w' => ∃ C, e = .returned (.agg C) ∧ CmdAt w' (askG 4) C ∧ Ext w w' := by
  have hr0 : ∀ w', Calls Tryd.prog 14 #[.int .i64 4, .int .i64 0] w' fun e w'' => e = .returned (.bool false) ∧ Ext w' w'' := fun w' => rhas_any w' 4 0 (by decide) (by decide)
  have hr1 : ∀ w', Calls Tryd.prog 14 #[.int .i64 4, .int .i64 1] w' fun e w'' => e = .returned (.bool true) ∧ Ext w' w'' := fun w' => rhas_any w' 4 1 (by decide) (by decide)
  have hr3 : ∀ w', Calls Tryd.prog 14 #[.int .i64 4, .int .i64 3] w' fun e w'' => e = .returned (.bool false) ∧ Ext w' w'' := fun w' => rhas_any w' 4 3 (by decide) (by decide)
  have hr4 : ∀ w', Calls Tryd.prog 14 #[.int .i64 4, .int .i64 4] w' fun e w'' => e = .returned (.bool false) ∧ Ext w' w'' := fun w' => rhas_any w' 4 4 (by decide) (by decide)
  have hr6 : ∀ w', Calls Tryd.prog 14 #[.int .i64 4, .int .i64 6] w' fun e w'' => e = .returned (.bool false) ∧ Ext w' w'' := fun w' => rhas_any w' 4 6 (by decide) (by decide)
  have hr7 : ∀ w', Calls Tryd.prog 14 #[.int .i64 4, .int .i64 7] w' fun e w'' => e = .returned (.bool false) ∧ Ext w' w'' := fun w' => rhas_any w' 4 7 (by decide) (by decide)
  obtain ⟨W, hW, hE, -⟩ := box1 w #[.int .i64 0, .string ⟨#[]⟩, .int .i64 0, .slice none 0 0, .int .u8 0, .int .u8 0, .int .u8 0, .int .u8 0, .int .u8 0, .int .u8 0, .int .u8 0, .int .u8 0, .int .u8 0, .int .u8 0, .int .u8 0, .int .u8 0, .int .u8 0, .int .u8 0, .int .u8 0, .int .u8 0, .int .u8 0, .int .u8 0, .int .u8 0, .int .u8 0, .int .u8 0, .int .u8 0, .int .u8 0, .int .u8 0, .int .u8 0, .int .u8 0, .int .u8 0, .int .u8 0, .int .u8 0, .int .u8 0, .int .u8 0, .int .u8 0, .string ⟨#[]⟩, .string ⟨#[]⟩, .int .i64 0, .slice none 0 0, .int .i64 0, .int .i64 0, .int .i64 0, .string ⟨#[]⟩, .bool false, .int .i64 0, .int .i64 0] 32
  have B1 : Blk W w.heap.size 32 #[.int .i64 0, .string ⟨#[]⟩, .int .i64 0, .slice none 0 0, .int .u8 0, .int .u8 0, .int .u8 0, .int .u8 0, .int .u8 0, .int .u8 0, .int .u8 0, .int .u8 0, .int .u8 0, .int .u8 0, .int .u8 0, .int .u8 0, .int .u8 0, .int .u8 0, .int .u8 0, .int .u8 0, .int .u8 0, .int .u8 0, .int .u8 0, .int .u8 0, .int .u8 0, .int .u8 0, .int .u8 0, .int .u8 0, .int .u8 0, .int .u8 0, .int .u8 0, .int .u8 0, .int .u8 0, .int .u8 0, .int .u8 0, .int .u8 0, .string ⟨#[]⟩, .string ⟨#[]⟩, .int .i64 0, .slice none 0 0, .int .i64 0, .int .i64 0, .int .i64 0, .string ⟨#[]⟩, .bool false, .int .i64 0, .int .i64 0] := by rw [hW]; exact Blk.new _ _ _
  have hq1 : w.heap.size < W.heap.size := B1.lt
  obtain ⟨V, hr, BV, hEV⟩ := box_row W 32 #[.int .i64 0, .string ⟨#[]⟩, .int .i64 0, .slice none 0 0, .int .u8 0, .int .u8 0, .int .u8 0, .int .u8 0, .int .u8 0, .int .u8 0, .int .u8 0, .int .u8 0, .int .u8 0, .int .u8 0, .int .u8 0, .int .u8 0, .int .u8 0, .int .u8 0, .int .u8 0, .int .u8 0, .int .u8 0, .int .u8 0, .int .u8 0, .int .u8 0, .int .u8 0, .int .u8 0, .int .u8 0, .int .u8 0, .int .u8 0, .int .u8 0, .int .u8 0, .int .u8 0, .int .u8 0, .int .u8 0, .int .u8 0, .int .u8 0, .string ⟨#[]⟩, .string ⟨#[]⟩, .int .i64 0, .slice none 0 0, .int .i64 0, .int .i64 0, .int .i64 0, .string ⟨#[]⟩, .bool false, .int .i64 0, .int .i64 0] (cmdA ⟨4, zTok, ⟨#[]⟩, ⟨#[]⟩, 0, [], 0, 0, zGrant, 0⟩ (.slice none 0 0) (.slice none 0 0)) rfl (by kernel_rfl) (one_cmd _ _ _ rfl rfl)
  have F := hE.trans hEV
  have D := B1.ext hEV
  have hWs : W.heap.size = w.heap.size + 1 := by rw [hW]; simp
  rw [hWs] at hr BV hq1
  rw [hW] at hr
  clear hW
  go_enter Tryd.func6, Tryd.ntmps6
  go_upto_region 2 with (refine wpList_store_by rfl rfl ?_ ?_ hr ?_; (· rfl); (· rfl))
  clear hr B1 hE hEV hWs
  generalize w.heap.size + 1 = q at *
  go_upto_region 4 with (go_at_call 14; (with_reducible refine (hr0 _).mono ?_); rintro e u1 ⟨rfl, hE1⟩)
  have BV := BV.ext hE1
  have F := F.trans hE1
  have D := D.ext hE1
  clear hE1 hr0
  go_upto_region 5 with (go_at_call 14; (with_reducible refine (hr1 _).mono ?_); rintro e u2 ⟨rfl, hE2⟩)
  have BV := BV.ext hE2
  have F := F.trans hE2
  have D := D.ext hE2
  clear hE2 hr1
  have cz := BV.cell 37 (v := .string ⟨#[]⟩) rfl
  have cf := BV.frozen 37
  go_upto_region 6 with fail
  have BV : Blk (u2.setCell ⟨q, 37, none⟩ (.string ⟨#[98, 111, 98]⟩)) q 32 (cmdA ⟨4, zTok, ⟨#[]⟩, ⟨#[98, 111, 98]⟩, 0, [], 0, 0, zGrant, 0⟩ (.slice none 0 0) (.slice none 0 0)) := by
    have e : (cmdA ⟨4, zTok, ⟨#[]⟩, ⟨#[]⟩, 0, [], 0, 0, zGrant, 0⟩ (.slice none 0 0) (.slice none 0 0)).setIfInBounds 37 (.string ⟨#[98, 111, 98]⟩) = cmdA ⟨4, zTok, ⟨#[]⟩, ⟨#[98, 111, 98]⟩, 0, [], 0, 0, zGrant, 0⟩ (.slice none 0 0) (.slice none 0 0) := by kernel_rfl
    rw [← e]; exact BV.set_ 37 _
  have F := Ext.set F (p := ⟨q, 37, none⟩) (Nat.le_of_lt hq1) (.string ⟨#[98, 111, 98]⟩)
  have D := D.far (p := ⟨q, 37, none⟩) (by show w.heap.size ≠ q; omega) (.string ⟨#[98, 111, 98]⟩)
  clear cz cf
  generalize u2.setCell ⟨q, 37, none⟩ (.string ⟨#[98, 111, 98]⟩) = s2 at *
  go_upto_region 8 with (go_at_call 14; (with_reducible refine (hr3 _).mono ?_); rintro e u3 ⟨rfl, hE3⟩)
  have BV := BV.ext hE3
  have F := F.trans hE3
  have D := D.ext hE3
  clear hE3 hr3
  go_upto_region 10 with (go_at_call 14; (with_reducible refine (hr4 _).mono ?_); rintro e u4 ⟨rfl, hE4⟩)
  have BV := BV.ext hE4
  have F := F.trans hE4
  have D := D.ext hE4
  clear hE4 hr4
  go_upto_region 12 with (go_at_call 14; (with_reducible refine (hr6 _).mono ?_); rintro e u5 ⟨rfl, hE5⟩)
  have BV := BV.ext hE5
  have F := F.trans hE5
  have D := D.ext hE5
  clear hE5 hr6
  go_upto_region 14 with (go_at_call 14; (with_reducible refine (hr7 _).mono ?_); rintro e u6 ⟨rfl, hE6⟩)
  have BV := BV.ext hE6
  have F := F.trans hE6
  have D := D.ext hE6
  clear hE6 hr7
  have hl := load_whole BV 32 _ Tryd.underlying32 rfl (by kernel_rfl)
  obtain ⟨wF, hr, BF, hXF⟩ := over_row D (C := cmdA ⟨4, zTok, ⟨#[]⟩, ⟨#[98, 111, 98]⟩, 0, [], 0, 0, zGrant, 0⟩ (.slice none 0 0) (.slice none 0 0)) rfl (by kernel_rfl) (one_cmd _ _ _ rfl rfl)
  go_wp2_with (first | (refine wpList_load_by rfl rfl ?_ hl ?_; (· rfl)) | (refine wpList_store_by rfl rfl ?_ ?_ hr ?_; (· rfl); (· rfl)))
  refine bodyPost_ret (v := .agg (cmdA ⟨4, zTok, ⟨#[]⟩, ⟨#[98, 111, 98]⟩, 0, [], 0, 0, zGrant, 0⟩ (.slice none 0 0) (.slice none 0 0))) (results_cell_row (P := Tryd.prog) (fn := Tryd.f6) rfl _ wF w.heap.size _ _ _ _ rfl BF Tryd.underlying32 rfl (by kernel_rfl)) rfl ?_
  exact ⟨_, rfl, ⟨_, _, rfl, GsV.nil _, BsV.nil _⟩, Exc.ext F hXF (Nat.le_refl _)⟩
set_option maxHeartbeats 9000000 in
set_option maxRecDepth 100000 in
theorem ask5_any (w : World) : Calls Tryd.prog 6 #[.int .i64 5] w fun e w' => ∃ C, e = .returned (.agg C) ∧ CmdAt w' (askG 5) C ∧ Ext w w' := by
  have hr0 : ∀ w', Calls Tryd.prog 14 #[.int .i64 5, .int .i64 0] w' fun e w'' => e = .returned (.bool false) ∧ Ext w' w'' := fun w' => rhas_any w' 5 0 (by decide) (by decide)
  have hr1 : ∀ w', Calls Tryd.prog 14 #[.int .i64 5, .int .i64 1] w' fun e w'' => e = .returned (.bool false) ∧ Ext w' w'' := fun w' => rhas_any w' 5 1 (by decide) (by decide)
  have hr3 : ∀ w', Calls Tryd.prog 14 #[.int .i64 5, .int .i64 3] w' fun e w'' => e = .returned (.bool false) ∧ Ext w' w'' := fun w' => rhas_any w' 5 3 (by decide) (by decide)
  have hr4 : ∀ w', Calls Tryd.prog 14 #[.int .i64 5, .int .i64 4] w' fun e w'' => e = .returned (.bool false) ∧ Ext w' w'' := fun w' => rhas_any w' 5 4 (by decide) (by decide)
  have hr6 : ∀ w', Calls Tryd.prog 14 #[.int .i64 5, .int .i64 6] w' fun e w'' => e = .returned (.bool true) ∧ Ext w' w'' := fun w' => rhas_any w' 5 6 (by decide) (by decide)
  have hr7 : ∀ w', Calls Tryd.prog 14 #[.int .i64 5, .int .i64 7] w' fun e w'' => e = .returned (.bool false) ∧ Ext w' w'' := fun w' => rhas_any w' 5 7 (by decide) (by decide)
  obtain ⟨W, hW, hE, -⟩ := box1 w #[.int .i64 0, .string ⟨#[]⟩, .int .i64 0, .slice none 0 0, .int .u8 0, .int .u8 0, .int .u8 0, .int .u8 0, .int .u8 0, .int .u8 0, .int .u8 0, .int .u8 0, .int .u8 0, .int .u8 0, .int .u8 0, .int .u8 0, .int .u8 0, .int .u8 0, .int .u8 0, .int .u8 0, .int .u8 0, .int .u8 0, .int .u8 0, .int .u8 0, .int .u8 0, .int .u8 0, .int .u8 0, .int .u8 0, .int .u8 0, .int .u8 0, .int .u8 0, .int .u8 0, .int .u8 0, .int .u8 0, .int .u8 0, .int .u8 0, .string ⟨#[]⟩, .string ⟨#[]⟩, .int .i64 0, .slice none 0 0, .int .i64 0, .int .i64 0, .int .i64 0, .string ⟨#[]⟩, .bool false, .int .i64 0, .int .i64 0] 32
  have B1 : Blk W w.heap.size 32 #[.int .i64 0, .string ⟨#[]⟩, .int .i64 0, .slice none 0 0, .int .u8 0, .int .u8 0, .int .u8 0, .int .u8 0, .int .u8 0, .int .u8 0, .int .u8 0, .int .u8 0, .int .u8 0, .int .u8 0, .int .u8 0, .int .u8 0, .int .u8 0, .int .u8 0, .int .u8 0, .int .u8 0, .int .u8 0, .int .u8 0, .int .u8 0, .int .u8 0, .int .u8 0, .int .u8 0, .int .u8 0, .int .u8 0, .int .u8 0, .int .u8 0, .int .u8 0, .int .u8 0, .int .u8 0, .int .u8 0, .int .u8 0, .int .u8 0, .string ⟨#[]⟩, .string ⟨#[]⟩, .int .i64 0, .slice none 0 0, .int .i64 0, .int .i64 0, .int .i64 0, .string ⟨#[]⟩, .bool false, .int .i64 0, .int .i64 0] := by rw [hW]; exact Blk.new _ _ _
  have hq1 : w.heap.size < W.heap.size := B1.lt
  obtain ⟨V, hr, BV, hEV⟩ := box_row W 32 #[.int .i64 0, .string ⟨#[]⟩, .int .i64 0, .slice none 0 0, .int .u8 0, .int .u8 0, .int .u8 0, .int .u8 0, .int .u8 0, .int .u8 0, .int .u8 0, .int .u8 0, .int .u8 0, .int .u8 0, .int .u8 0, .int .u8 0, .int .u8 0, .int .u8 0, .int .u8 0, .int .u8 0, .int .u8 0, .int .u8 0, .int .u8 0, .int .u8 0, .int .u8 0, .int .u8 0, .int .u8 0, .int .u8 0, .int .u8 0, .int .u8 0, .int .u8 0, .int .u8 0, .int .u8 0, .int .u8 0, .int .u8 0, .int .u8 0, .string ⟨#[]⟩, .string ⟨#[]⟩, .int .i64 0, .slice none 0 0, .int .i64 0, .int .i64 0, .int .i64 0, .string ⟨#[]⟩, .bool false, .int .i64 0, .int .i64 0] (cmdA ⟨5, zTok, ⟨#[]⟩, ⟨#[]⟩, 0, [], 0, 0, zGrant, 0⟩ (.slice none 0 0) (.slice none 0 0)) rfl (by kernel_rfl) (one_cmd _ _ _ rfl rfl)
  have F := hE.trans hEV
  have D := B1.ext hEV
  have hWs : W.heap.size = w.heap.size + 1 := by rw [hW]; simp
  rw [hWs] at hr BV hq1
  rw [hW] at hr
  clear hW
  go_enter Tryd.func6, Tryd.ntmps6
  go_upto_region 2 with (refine wpList_store_by rfl rfl ?_ ?_ hr ?_; (· rfl); (· rfl))
  clear hr B1 hE hEV hWs
  generalize w.heap.size + 1 = q at *
  go_upto_region 4 with (go_at_call 14; (with_reducible refine (hr0 _).mono ?_); rintro e u1 ⟨rfl, hE1⟩)
  have BV := BV.ext hE1
  have F := F.trans hE1
  have D := D.ext hE1
  clear hE1 hr0
  go_upto_region 6 with (go_at_call 14; (with_reducible refine (hr1 _).mono ?_); rintro e u2 ⟨rfl, hE2⟩)
  have BV := BV.ext hE2
  have F := F.trans hE2
  have D := D.ext hE2
  clear hE2 hr1
  go_upto_region 8 with (go_at_call 14; (with_reducible refine (hr3 _).mono ?_); rintro e u3 ⟨rfl, hE3⟩)
  have BV := BV.ext hE3
  have F := F.trans hE3
  have D := D.ext hE3
  clear hE3 hr3
  go_upto_region 10 with (go_at_call 14; (with_reducible refine (hr4 _).mono ?_); rintro e u4 ⟨rfl, hE4⟩)
  have BV := BV.ext hE4
  have F := F.trans hE4
  have D := D.ext hE4
  clear hE4 hr4
  go_upto_region 11 with (go_at_call 14; (with_reducible refine (hr6 _).mono ?_); rintro e u5 ⟨rfl, hE5⟩)
  have BV := BV.ext hE5
  have F := F.trans hE5
  have D := D.ext hE5
  clear hE5 hr6
  obtain ⟨s5, hr, BG, hXG⟩ := store_part BV 42 (grA ⟨2, ⟨#[108, 111, 103]⟩, false, 0⟩) ([.int .i64 5] ++ (tokA zTok (.slice none 0 0)).toList ++ [.string ⟨#[]⟩, .string ⟨#[]⟩, .int .i64 0, .slice none 0 0, .int .i64 0, .int .i64 0]) (grA zGrant).toList [.int .i64 0] rfl rfl rfl 30 (by kernel_rfl) (by simp [grA, oc_int, oc_str, oc_bool])
  go_upto_region 12 with (refine wpList_store_by rfl rfl ?_ ?_ hr ?_; (· rfl); (· rfl))
  have BV : Blk s5 q 32 (cmdA ⟨5, zTok, ⟨#[]⟩, ⟨#[]⟩, 0, [], 0, 0, ⟨2, ⟨#[108, 111, 103]⟩, false, 0⟩, 0⟩ (.slice none 0 0) (.slice none 0 0)) := BG
  have F := Exc.ext F hXG (Nat.le_of_lt hq1)
  have D := hXG.blk D (.inl hq1)
  clear hr BG hXG
  go_upto_region 14 with (go_at_call 14; (with_reducible refine (hr7 _).mono ?_); rintro e u6 ⟨rfl, hE6⟩)
  have BV := BV.ext hE6
  have F := F.trans hE6
  have D := D.ext hE6
  clear hE6 hr7
  have hl := load_whole BV 32 _ Tryd.underlying32 rfl (by kernel_rfl)
  obtain ⟨wF, hr, BF, hXF⟩ := over_row D (C := cmdA ⟨5, zTok, ⟨#[]⟩, ⟨#[]⟩, 0, [], 0, 0, ⟨2, ⟨#[108, 111, 103]⟩, false, 0⟩, 0⟩ (.slice none 0 0) (.slice none 0 0)) rfl (by kernel_rfl) (one_cmd _ _ _ rfl rfl)
  go_wp2_with (first | (refine wpList_load_by rfl rfl ?_ hl ?_; (· rfl)) | (refine wpList_store_by rfl rfl ?_ ?_ hr ?_; (· rfl); (· rfl)))
  refine bodyPost_ret (v := .agg (cmdA ⟨5, zTok, ⟨#[]⟩, ⟨#[]⟩, 0, [], 0, 0, ⟨2, ⟨#[108, 111, 103]⟩, false, 0⟩, 0⟩ (.slice none 0 0) (.slice none 0 0))) (results_cell_row (P := Tryd.prog) (fn := Tryd.f6) rfl _ wF w.heap.size _ _ _ _ rfl BF Tryd.underlying32 rfl (by kernel_rfl)) rfl ?_
  exact ⟨_, rfl, ⟨_, _, rfl, GsV.nil _, BsV.nil _⟩, Exc.ext F hXF (Nat.le_refl _)⟩
set_option maxHeartbeats 9000000 in
set_option maxRecDepth 100000 in
theorem ask6_any (w : World) : Calls Tryd.prog 6 #[.int .i64 6] w fun e w' => ∃ C, e = .returned (.agg C) ∧ CmdAt w' (askG 6) C ∧ Ext w w' := by
  have hr0 : ∀ w', Calls Tryd.prog 14 #[.int .i64 6, .int .i64 0] w' fun e w'' => e = .returned (.bool false) ∧ Ext w' w'' := fun w' => rhas_any w' 6 0 (by decide) (by decide)
  have hr1 : ∀ w', Calls Tryd.prog 14 #[.int .i64 6, .int .i64 1] w' fun e w'' => e = .returned (.bool false) ∧ Ext w' w'' := fun w' => rhas_any w' 6 1 (by decide) (by decide)
  have hr3 : ∀ w', Calls Tryd.prog 14 #[.int .i64 6, .int .i64 3] w' fun e w'' => e = .returned (.bool false) ∧ Ext w' w'' := fun w' => rhas_any w' 6 3 (by decide) (by decide)
  have hr4 : ∀ w', Calls Tryd.prog 14 #[.int .i64 6, .int .i64 4] w' fun e w'' => e = .returned (.bool false) ∧ Ext w' w'' := fun w' => rhas_any w' 6 4 (by decide) (by decide)
  have hr6 : ∀ w', Calls Tryd.prog 14 #[.int .i64 6, .int .i64 6] w' fun e w'' => e = .returned (.bool false) ∧ Ext w' w'' := fun w' => rhas_any w' 6 6 (by decide) (by decide)
  have hr7 : ∀ w', Calls Tryd.prog 14 #[.int .i64 6, .int .i64 7] w' fun e w'' => e = .returned (.bool true) ∧ Ext w' w'' := fun w' => rhas_any w' 6 7 (by decide) (by decide)
  obtain ⟨W, hW, hE, -⟩ := box1 w #[.int .i64 0, .string ⟨#[]⟩, .int .i64 0, .slice none 0 0, .int .u8 0, .int .u8 0, .int .u8 0, .int .u8 0, .int .u8 0, .int .u8 0, .int .u8 0, .int .u8 0, .int .u8 0, .int .u8 0, .int .u8 0, .int .u8 0, .int .u8 0, .int .u8 0, .int .u8 0, .int .u8 0, .int .u8 0, .int .u8 0, .int .u8 0, .int .u8 0, .int .u8 0, .int .u8 0, .int .u8 0, .int .u8 0, .int .u8 0, .int .u8 0, .int .u8 0, .int .u8 0, .int .u8 0, .int .u8 0, .int .u8 0, .int .u8 0, .string ⟨#[]⟩, .string ⟨#[]⟩, .int .i64 0, .slice none 0 0, .int .i64 0, .int .i64 0, .int .i64 0, .string ⟨#[]⟩, .bool false, .int .i64 0, .int .i64 0] 32
  have B1 : Blk W w.heap.size 32 #[.int .i64 0, .string ⟨#[]⟩, .int .i64 0, .slice none 0 0, .int .u8 0, .int .u8 0, .int .u8 0, .int .u8 0, .int .u8 0, .int .u8 0, .int .u8 0, .int .u8 0, .int .u8 0, .int .u8 0, .int .u8 0, .int .u8 0, .int .u8 0, .int .u8 0, .int .u8 0, .int .u8 0, .int .u8 0, .int .u8 0, .int .u8 0, .int .u8 0, .int .u8 0, .int .u8 0, .int .u8 0, .int .u8 0, .int .u8 0, .int .u8 0, .int .u8 0, .int .u8 0, .int .u8 0, .int .u8 0, .int .u8 0, .int .u8 0, .string ⟨#[]⟩, .string ⟨#[]⟩, .int .i64 0, .slice none 0 0, .int .i64 0, .int .i64 0, .int .i64 0, .string ⟨#[]⟩, .bool false, .int .i64 0, .int .i64 0] := by rw [hW]; exact Blk.new _ _ _
  have hq1 : w.heap.size < W.heap.size := B1.lt
  obtain ⟨V, hr, BV, hEV⟩ := box_row W 32 #[.int .i64 0, .string ⟨#[]⟩, .int .i64 0, .slice none 0 0, .int .u8 0, .int .u8 0, .int .u8 0, .int .u8 0, .int .u8 0, .int .u8 0, .int .u8 0, .int .u8 0, .int .u8 0, .int .u8 0, .int .u8 0, .int .u8 0, .int .u8 0, .int .u8 0, .int .u8 0, .int .u8 0, .int .u8 0, .int .u8 0, .int .u8 0, .int .u8 0, .int .u8 0, .int .u8 0, .int .u8 0, .int .u8 0, .int .u8 0, .int .u8 0, .int .u8 0, .int .u8 0, .int .u8 0, .int .u8 0, .int .u8 0, .int .u8 0, .string ⟨#[]⟩, .string ⟨#[]⟩, .int .i64 0, .slice none 0 0, .int .i64 0, .int .i64 0, .int .i64 0, .string ⟨#[]⟩, .bool false, .int .i64 0, .int .i64 0] (cmdA ⟨6, zTok, ⟨#[]⟩, ⟨#[]⟩, 0, [], 0, 0, zGrant, 0⟩ (.slice none 0 0) (.slice none 0 0)) rfl (by kernel_rfl) (one_cmd _ _ _ rfl rfl)
  have F := hE.trans hEV
  have D := B1.ext hEV
  have hWs : W.heap.size = w.heap.size + 1 := by rw [hW]; simp
  rw [hWs] at hr BV hq1
  rw [hW] at hr
  clear hW
  go_enter Tryd.func6, Tryd.ntmps6
  go_upto_region 2 with (refine wpList_store_by rfl rfl ?_ ?_ hr ?_; (· rfl); (· rfl))
  clear hr B1 hE hEV hWs
  generalize w.heap.size + 1 = q at *
  go_upto_region 4 with (go_at_call 14; (with_reducible refine (hr0 _).mono ?_); rintro e u1 ⟨rfl, hE1⟩)
  have BV := BV.ext hE1
  have F := F.trans hE1
  have D := D.ext hE1
  clear hE1 hr0
  go_upto_region 6 with (go_at_call 14; (with_reducible refine (hr1 _).mono ?_); rintro e u2 ⟨rfl, hE2⟩)
  have BV := BV.ext hE2
  have F := F.trans hE2
  have D := D.ext hE2
  clear hE2 hr1
  go_upto_region 8 with (go_at_call 14; (with_reducible refine (hr3 _).mono ?_); rintro e u3 ⟨rfl, hE3⟩)
  have BV := BV.ext hE3
  have F := F.trans hE3
  have D := D.ext hE3
  clear hE3 hr3
  go_upto_region 10 with (go_at_call 14; (with_reducible refine (hr4 _).mono ?_); rintro e u4 ⟨rfl, hE4⟩)
  have BV := BV.ext hE4
  have F := F.trans hE4
  have D := D.ext hE4
  clear hE4 hr4
  go_upto_region 12 with (go_at_call 14; (with_reducible refine (hr6 _).mono ?_); rintro e u5 ⟨rfl, hE5⟩)
  have BV := BV.ext hE5
  have F := F.trans hE5
  have D := D.ext hE5
  clear hE5 hr6
  go_upto_region 13 with (go_at_call 14; (with_reducible refine (hr7 _).mono ?_); rintro e u6 ⟨rfl, hE6⟩)
  have BV := BV.ext hE6
  have F := F.trans hE6
  have D := D.ext hE6
  clear hE6 hr7
  have cz := BV.cell 46 (v := .int .i64 0) rfl
  have cf := BV.frozen 46
  go_upto_region 14 with fail
  have BV : Blk (u6.setCell ⟨q, 46, none⟩ (.int .i64 2)) q 32 (cmdA ⟨6, zTok, ⟨#[]⟩, ⟨#[]⟩, 0, [], 0, 0, zGrant, 2⟩ (.slice none 0 0) (.slice none 0 0)) := by
    have e : (cmdA ⟨6, zTok, ⟨#[]⟩, ⟨#[]⟩, 0, [], 0, 0, zGrant, 0⟩ (.slice none 0 0) (.slice none 0 0)).setIfInBounds 46 (.int .i64 2) = cmdA ⟨6, zTok, ⟨#[]⟩, ⟨#[]⟩, 0, [], 0, 0, zGrant, 2⟩ (.slice none 0 0) (.slice none 0 0) := by kernel_rfl
    rw [← e]; exact BV.set_ 46 _
  have F := Ext.set F (p := ⟨q, 46, none⟩) (Nat.le_of_lt hq1) (.int .i64 2)
  have D := D.far (p := ⟨q, 46, none⟩) (by show w.heap.size ≠ q; omega) (.int .i64 2)
  clear cz cf
  generalize u6.setCell ⟨q, 46, none⟩ (.int .i64 2) = s6 at *
  have hl := load_whole BV 32 _ Tryd.underlying32 rfl (by kernel_rfl)
  obtain ⟨wF, hr, BF, hXF⟩ := over_row D (C := cmdA ⟨6, zTok, ⟨#[]⟩, ⟨#[]⟩, 0, [], 0, 0, zGrant, 2⟩ (.slice none 0 0) (.slice none 0 0)) rfl (by kernel_rfl) (one_cmd _ _ _ rfl rfl)
  go_wp2_with (first | (refine wpList_load_by rfl rfl ?_ hl ?_; (· rfl)) | (refine wpList_store_by rfl rfl ?_ ?_ hr ?_; (· rfl); (· rfl)))
  refine bodyPost_ret (v := .agg (cmdA ⟨6, zTok, ⟨#[]⟩, ⟨#[]⟩, 0, [], 0, 0, zGrant, 2⟩ (.slice none 0 0) (.slice none 0 0))) (results_cell_row (P := Tryd.prog) (fn := Tryd.f6) rfl _ wF w.heap.size _ _ _ _ rfl BF Tryd.underlying32 rfl (by kernel_rfl)) rfl ?_
  exact ⟨_, rfl, ⟨_, _, rfl, GsV.nil _, BsV.nil _⟩, Exc.ext F hXF (Nat.le_refl _)⟩
set_option maxHeartbeats 9000000 in
set_option maxRecDepth 100000 in
theorem ask7_any (w : World) : Calls Tryd.prog 6 #[.int .i64 7] w fun e w' => ∃ C, e = .returned (.agg C) ∧ CmdAt w' (askG 7) C ∧ Ext w w' := by
  have hr0 : ∀ w', Calls Tryd.prog 14 #[.int .i64 7, .int .i64 0] w' fun e w'' => e = .returned (.bool false) ∧ Ext w' w'' := fun w' => rhas_any w' 7 0 (by decide) (by decide)
  have hr1 : ∀ w', Calls Tryd.prog 14 #[.int .i64 7, .int .i64 1] w' fun e w'' => e = .returned (.bool false) ∧ Ext w' w'' := fun w' => rhas_any w' 7 1 (by decide) (by decide)
  have hr3 : ∀ w', Calls Tryd.prog 14 #[.int .i64 7, .int .i64 3] w' fun e w'' => e = .returned (.bool false) ∧ Ext w' w'' := fun w' => rhas_any w' 7 3 (by decide) (by decide)
  have hr4 : ∀ w', Calls Tryd.prog 14 #[.int .i64 7, .int .i64 4] w' fun e w'' => e = .returned (.bool true) ∧ Ext w' w'' := fun w' => rhas_any w' 7 4 (by decide) (by decide)
  have hr6 : ∀ w', Calls Tryd.prog 14 #[.int .i64 7, .int .i64 6] w' fun e w'' => e = .returned (.bool false) ∧ Ext w' w'' := fun w' => rhas_any w' 7 6 (by decide) (by decide)
  have hr7 : ∀ w', Calls Tryd.prog 14 #[.int .i64 7, .int .i64 7] w' fun e w'' => e = .returned (.bool false) ∧ Ext w' w'' := fun w' => rhas_any w' 7 7 (by decide) (by decide)
  obtain ⟨W, hW, hE, -⟩ := box1 w #[.int .i64 0, .string ⟨#[]⟩, .int .i64 0, .slice none 0 0, .int .u8 0, .int .u8 0, .int .u8 0, .int .u8 0, .int .u8 0, .int .u8 0, .int .u8 0, .int .u8 0, .int .u8 0, .int .u8 0, .int .u8 0, .int .u8 0, .int .u8 0, .int .u8 0, .int .u8 0, .int .u8 0, .int .u8 0, .int .u8 0, .int .u8 0, .int .u8 0, .int .u8 0, .int .u8 0, .int .u8 0, .int .u8 0, .int .u8 0, .int .u8 0, .int .u8 0, .int .u8 0, .int .u8 0, .int .u8 0, .int .u8 0, .int .u8 0, .string ⟨#[]⟩, .string ⟨#[]⟩, .int .i64 0, .slice none 0 0, .int .i64 0, .int .i64 0, .int .i64 0, .string ⟨#[]⟩, .bool false, .int .i64 0, .int .i64 0] 32
  have B1 : Blk W w.heap.size 32 #[.int .i64 0, .string ⟨#[]⟩, .int .i64 0, .slice none 0 0, .int .u8 0, .int .u8 0, .int .u8 0, .int .u8 0, .int .u8 0, .int .u8 0, .int .u8 0, .int .u8 0, .int .u8 0, .int .u8 0, .int .u8 0, .int .u8 0, .int .u8 0, .int .u8 0, .int .u8 0, .int .u8 0, .int .u8 0, .int .u8 0, .int .u8 0, .int .u8 0, .int .u8 0, .int .u8 0, .int .u8 0, .int .u8 0, .int .u8 0, .int .u8 0, .int .u8 0, .int .u8 0, .int .u8 0, .int .u8 0, .int .u8 0, .int .u8 0, .string ⟨#[]⟩, .string ⟨#[]⟩, .int .i64 0, .slice none 0 0, .int .i64 0, .int .i64 0, .int .i64 0, .string ⟨#[]⟩, .bool false, .int .i64 0, .int .i64 0] := by rw [hW]; exact Blk.new _ _ _
  have hq1 : w.heap.size < W.heap.size := B1.lt
  obtain ⟨V, hr, BV, hEV⟩ := box_row W 32 #[.int .i64 0, .string ⟨#[]⟩, .int .i64 0, .slice none 0 0, .int .u8 0, .int .u8 0, .int .u8 0, .int .u8 0, .int .u8 0, .int .u8 0, .int .u8 0, .int .u8 0, .int .u8 0, .int .u8 0, .int .u8 0, .int .u8 0, .int .u8 0, .int .u8 0, .int .u8 0, .int .u8 0, .int .u8 0, .int .u8 0, .int .u8 0, .int .u8 0, .int .u8 0, .int .u8 0, .int .u8 0, .int .u8 0, .int .u8 0, .int .u8 0, .int .u8 0, .int .u8 0, .int .u8 0, .int .u8 0, .int .u8 0, .int .u8 0, .string ⟨#[]⟩, .string ⟨#[]⟩, .int .i64 0, .slice none 0 0, .int .i64 0, .int .i64 0, .int .i64 0, .string ⟨#[]⟩, .bool false, .int .i64 0, .int .i64 0] (cmdA ⟨7, zTok, ⟨#[]⟩, ⟨#[]⟩, 0, [], 0, 0, zGrant, 0⟩ (.slice none 0 0) (.slice none 0 0)) rfl (by kernel_rfl) (one_cmd _ _ _ rfl rfl)
  have F := hE.trans hEV
  have D := B1.ext hEV
  have hWs : W.heap.size = w.heap.size + 1 := by rw [hW]; simp
  rw [hWs] at hr BV hq1
  rw [hW] at hr
  clear hW
  go_enter Tryd.func6, Tryd.ntmps6
  go_upto_region 2 with (refine wpList_store_by rfl rfl ?_ ?_ hr ?_; (· rfl); (· rfl))
  clear hr B1 hE hEV hWs
  generalize w.heap.size + 1 = q at *
  go_upto_region 4 with (go_at_call 14; (with_reducible refine (hr0 _).mono ?_); rintro e u1 ⟨rfl, hE1⟩)
  have BV := BV.ext hE1
  have F := F.trans hE1
  have D := D.ext hE1
  clear hE1 hr0
  go_upto_region 6 with (go_at_call 14; (with_reducible refine (hr1 _).mono ?_); rintro e u2 ⟨rfl, hE2⟩)
  have BV := BV.ext hE2
  have F := F.trans hE2
  have D := D.ext hE2
  clear hE2 hr1
  go_upto_region 8 with (go_at_call 14; (with_reducible refine (hr3 _).mono ?_); rintro e u3 ⟨rfl, hE3⟩)
  have BV := BV.ext hE3
  have F := F.trans hE3
  have D := D.ext hE3
  clear hE3 hr3
  go_upto_region 9 with (go_at_call 14; (with_reducible refine (hr4 _).mono ?_); rintro e u4 ⟨rfl, hE4⟩)
  have BV := BV.ext hE4
  have F := F.trans hE4
  have D := D.ext hE4
  clear hE4 hr4
  have cz := BV.cell 40 (v := .int .i64 0) rfl
  have cf := BV.frozen 40
  go_upto_region 10 with fail
  have BV : Blk (u4.setCell ⟨q, 40, none⟩ (.int .i64 1)) q 32 (cmdA ⟨7, zTok, ⟨#[]⟩, ⟨#[]⟩, 0, [], 1, 0, zGrant, 0⟩ (.slice none 0 0) (.slice none 0 0)) := by
    have e : (cmdA ⟨7, zTok, ⟨#[]⟩, ⟨#[]⟩, 0, [], 0, 0, zGrant, 0⟩ (.slice none 0 0) (.slice none 0 0)).setIfInBounds 40 (.int .i64 1) = cmdA ⟨7, zTok, ⟨#[]⟩, ⟨#[]⟩, 0, [], 1, 0, zGrant, 0⟩ (.slice none 0 0) (.slice none 0 0) := by kernel_rfl
    rw [← e]; exact BV.set_ 40 _
  have F := Ext.set F (p := ⟨q, 40, none⟩) (Nat.le_of_lt hq1) (.int .i64 1)
  have D := D.far (p := ⟨q, 40, none⟩) (by show w.heap.size ≠ q; omega) (.int .i64 1)
  clear cz cf
  generalize u4.setCell ⟨q, 40, none⟩ (.int .i64 1) = s4 at *
  go_upto_region 12 with (go_at_call 14; (with_reducible refine (hr6 _).mono ?_); rintro e u5 ⟨rfl, hE5⟩)
  have BV := BV.ext hE5
  have F := F.trans hE5
  have D := D.ext hE5
  clear hE5 hr6
  go_upto_region 14 with (go_at_call 14; (with_reducible refine (hr7 _).mono ?_); rintro e u6 ⟨rfl, hE6⟩)
  have BV := BV.ext hE6
  have F := F.trans hE6
  have D := D.ext hE6
  clear hE6 hr7
  have hl := load_whole BV 32 _ Tryd.underlying32 rfl (by kernel_rfl)
  obtain ⟨wF, hr, BF, hXF⟩ := over_row D (C := cmdA ⟨7, zTok, ⟨#[]⟩, ⟨#[]⟩, 0, [], 1, 0, zGrant, 0⟩ (.slice none 0 0) (.slice none 0 0)) rfl (by kernel_rfl) (one_cmd _ _ _ rfl rfl)
  go_wp2_with (first | (refine wpList_load_by rfl rfl ?_ hl ?_; (· rfl)) | (refine wpList_store_by rfl rfl ?_ ?_ hr ?_; (· rfl); (· rfl)))
  refine bodyPost_ret (v := .agg (cmdA ⟨7, zTok, ⟨#[]⟩, ⟨#[]⟩, 0, [], 1, 0, zGrant, 0⟩ (.slice none 0 0) (.slice none 0 0))) (results_cell_row (P := Tryd.prog) (fn := Tryd.f6) rfl _ wF w.heap.size _ _ _ _ rfl BF Tryd.underlying32 rfl (by kernel_rfl)) rfl ?_
  exact ⟨_, rfl, ⟨_, _, rfl, GsV.nil _, BsV.nil _⟩, Exc.ext F hXF (Nat.le_refl _)⟩
set_option maxHeartbeats 9000000 in
set_option maxRecDepth 100000 in
theorem ask8_any (w : World) : Calls Tryd.prog 6 #[.int .i64 8] w fun e w' => ∃ C, e = .returned (.agg C) ∧ CmdAt w' (askG 8) C ∧ Ext w w' := by
  have hr0 : ∀ w', Calls Tryd.prog 14 #[.int .i64 8, .int .i64 0] w' fun e w'' => e = .returned (.bool false) ∧ Ext w' w'' := fun w' => rhas_any w' 8 0 (by decide) (by decide)
  have hr1 : ∀ w', Calls Tryd.prog 14 #[.int .i64 8, .int .i64 1] w' fun e w'' => e = .returned (.bool false) ∧ Ext w' w'' := fun w' => rhas_any w' 8 1 (by decide) (by decide)
  have hr3 : ∀ w', Calls Tryd.prog 14 #[.int .i64 8, .int .i64 3] w' fun e w'' => e = .returned (.bool false) ∧ Ext w' w'' := fun w' => rhas_any w' 8 3 (by decide) (by decide)
  have hr4 : ∀ w', Calls Tryd.prog 14 #[.int .i64 8, .int .i64 4] w' fun e w'' => e = .returned (.bool true) ∧ Ext w' w'' := fun w' => rhas_any w' 8 4 (by decide) (by decide)
  have hr6 : ∀ w', Calls Tryd.prog 14 #[.int .i64 8, .int .i64 6] w' fun e w'' => e = .returned (.bool false) ∧ Ext w' w'' := fun w' => rhas_any w' 8 6 (by decide) (by decide)
  have hr7 : ∀ w', Calls Tryd.prog 14 #[.int .i64 8, .int .i64 7] w' fun e w'' => e = .returned (.bool false) ∧ Ext w' w'' := fun w' => rhas_any w' 8 7 (by decide) (by decide)
  obtain ⟨W, hW, hE, -⟩ := box1 w #[.int .i64 0, .string ⟨#[]⟩, .int .i64 0, .slice none 0 0, .int .u8 0, .int .u8 0, .int .u8 0, .int .u8 0, .int .u8 0, .int .u8 0, .int .u8 0, .int .u8 0, .int .u8 0, .int .u8 0, .int .u8 0, .int .u8 0, .int .u8 0, .int .u8 0, .int .u8 0, .int .u8 0, .int .u8 0, .int .u8 0, .int .u8 0, .int .u8 0, .int .u8 0, .int .u8 0, .int .u8 0, .int .u8 0, .int .u8 0, .int .u8 0, .int .u8 0, .int .u8 0, .int .u8 0, .int .u8 0, .int .u8 0, .int .u8 0, .string ⟨#[]⟩, .string ⟨#[]⟩, .int .i64 0, .slice none 0 0, .int .i64 0, .int .i64 0, .int .i64 0, .string ⟨#[]⟩, .bool false, .int .i64 0, .int .i64 0] 32
  have B1 : Blk W w.heap.size 32 #[.int .i64 0, .string ⟨#[]⟩, .int .i64 0, .slice none 0 0, .int .u8 0, .int .u8 0, .int .u8 0, .int .u8 0, .int .u8 0, .int .u8 0, .int .u8 0, .int .u8 0, .int .u8 0, .int .u8 0, .int .u8 0, .int .u8 0, .int .u8 0, .int .u8 0, .int .u8 0, .int .u8 0, .int .u8 0, .int .u8 0, .int .u8 0, .int .u8 0, .int .u8 0, .int .u8 0, .int .u8 0, .int .u8 0, .int .u8 0, .int .u8 0, .int .u8 0, .int .u8 0, .int .u8 0, .int .u8 0, .int .u8 0, .int .u8 0, .string ⟨#[]⟩, .string ⟨#[]⟩, .int .i64 0, .slice none 0 0, .int .i64 0, .int .i64 0, .int .i64 0, .string ⟨#[]⟩, .bool false, .int .i64 0, .int .i64 0] := by rw [hW]; exact Blk.new _ _ _
  have hq1 : w.heap.size < W.heap.size := B1.lt
  obtain ⟨V, hr, BV, hEV⟩ := box_row W 32 #[.int .i64 0, .string ⟨#[]⟩, .int .i64 0, .slice none 0 0, .int .u8 0, .int .u8 0, .int .u8 0, .int .u8 0, .int .u8 0, .int .u8 0, .int .u8 0, .int .u8 0, .int .u8 0, .int .u8 0, .int .u8 0, .int .u8 0, .int .u8 0, .int .u8 0, .int .u8 0, .int .u8 0, .int .u8 0, .int .u8 0, .int .u8 0, .int .u8 0, .int .u8 0, .int .u8 0, .int .u8 0, .int .u8 0, .int .u8 0, .int .u8 0, .int .u8 0, .int .u8 0, .int .u8 0, .int .u8 0, .int .u8 0, .int .u8 0, .string ⟨#[]⟩, .string ⟨#[]⟩, .int .i64 0, .slice none 0 0, .int .i64 0, .int .i64 0, .int .i64 0, .string ⟨#[]⟩, .bool false, .int .i64 0, .int .i64 0] (cmdA ⟨8, zTok, ⟨#[]⟩, ⟨#[]⟩, 0, [], 0, 0, zGrant, 0⟩ (.slice none 0 0) (.slice none 0 0)) rfl (by kernel_rfl) (one_cmd _ _ _ rfl rfl)
  have F := hE.trans hEV
  have D := B1.ext hEV
  have hWs : W.heap.size = w.heap.size + 1 := by rw [hW]; simp
  rw [hWs] at hr BV hq1
  rw [hW] at hr
  clear hW
  go_enter Tryd.func6, Tryd.ntmps6
  go_upto_region 2 with (refine wpList_store_by rfl rfl ?_ ?_ hr ?_; (· rfl); (· rfl))
  clear hr B1 hE hEV hWs
  generalize w.heap.size + 1 = q at *
  go_upto_region 4 with (go_at_call 14; (with_reducible refine (hr0 _).mono ?_); rintro e u1 ⟨rfl, hE1⟩)
  have BV := BV.ext hE1
  have F := F.trans hE1
  have D := D.ext hE1
  clear hE1 hr0
  go_upto_region 6 with (go_at_call 14; (with_reducible refine (hr1 _).mono ?_); rintro e u2 ⟨rfl, hE2⟩)
  have BV := BV.ext hE2
  have F := F.trans hE2
  have D := D.ext hE2
  clear hE2 hr1
  go_upto_region 8 with (go_at_call 14; (with_reducible refine (hr3 _).mono ?_); rintro e u3 ⟨rfl, hE3⟩)
  have BV := BV.ext hE3
  have F := F.trans hE3
  have D := D.ext hE3
  clear hE3 hr3
  go_upto_region 9 with (go_at_call 14; (with_reducible refine (hr4 _).mono ?_); rintro e u4 ⟨rfl, hE4⟩)
  have BV := BV.ext hE4
  have F := F.trans hE4
  have D := D.ext hE4
  clear hE4 hr4
  have cz := BV.cell 40 (v := .int .i64 0) rfl
  have cf := BV.frozen 40
  go_upto_region 10 with fail
  have BV : Blk (u4.setCell ⟨q, 40, none⟩ (.int .i64 1)) q 32 (cmdA ⟨8, zTok, ⟨#[]⟩, ⟨#[]⟩, 0, [], 1, 0, zGrant, 0⟩ (.slice none 0 0) (.slice none 0 0)) := by
    have e : (cmdA ⟨8, zTok, ⟨#[]⟩, ⟨#[]⟩, 0, [], 0, 0, zGrant, 0⟩ (.slice none 0 0) (.slice none 0 0)).setIfInBounds 40 (.int .i64 1) = cmdA ⟨8, zTok, ⟨#[]⟩, ⟨#[]⟩, 0, [], 1, 0, zGrant, 0⟩ (.slice none 0 0) (.slice none 0 0) := by kernel_rfl
    rw [← e]; exact BV.set_ 40 _
  have F := Ext.set F (p := ⟨q, 40, none⟩) (Nat.le_of_lt hq1) (.int .i64 1)
  have D := D.far (p := ⟨q, 40, none⟩) (by show w.heap.size ≠ q; omega) (.int .i64 1)
  clear cz cf
  generalize u4.setCell ⟨q, 40, none⟩ (.int .i64 1) = s4 at *
  go_upto_region 12 with (go_at_call 14; (with_reducible refine (hr6 _).mono ?_); rintro e u5 ⟨rfl, hE5⟩)
  have BV := BV.ext hE5
  have F := F.trans hE5
  have D := D.ext hE5
  clear hE5 hr6
  go_upto_region 14 with (go_at_call 14; (with_reducible refine (hr7 _).mono ?_); rintro e u6 ⟨rfl, hE6⟩)
  have BV := BV.ext hE6
  have F := F.trans hE6
  have D := D.ext hE6
  clear hE6 hr7
  have hl := load_whole BV 32 _ Tryd.underlying32 rfl (by kernel_rfl)
  obtain ⟨wF, hr, BF, hXF⟩ := over_row D (C := cmdA ⟨8, zTok, ⟨#[]⟩, ⟨#[]⟩, 0, [], 1, 0, zGrant, 0⟩ (.slice none 0 0) (.slice none 0 0)) rfl (by kernel_rfl) (one_cmd _ _ _ rfl rfl)
  go_wp2_with (first | (refine wpList_load_by rfl rfl ?_ hl ?_; (· rfl)) | (refine wpList_store_by rfl rfl ?_ ?_ hr ?_; (· rfl); (· rfl)))
  refine bodyPost_ret (v := .agg (cmdA ⟨8, zTok, ⟨#[]⟩, ⟨#[]⟩, 0, [], 1, 0, zGrant, 0⟩ (.slice none 0 0) (.slice none 0 0))) (results_cell_row (P := Tryd.prog) (fn := Tryd.f6) rfl _ wF w.heap.size _ _ _ _ rfl BF Tryd.underlying32 rfl (by kernel_rfl)) rfl ?_
  exact ⟨_, rfl, ⟨_, _, rfl, GsV.nil _, BsV.nil _⟩, Exc.ext F hXF (Nat.le_refl _)⟩
end Go.Proofs.YtgfhbachgniipaaDoor
