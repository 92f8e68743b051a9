/- The law CommandGets, walked. (and what follows) -/
import Derived.Test.YtgfhbachgniipaaGreatDoorM11
/-! The law CommandGets, walked. -/
namespace Go.Proofs.YtgfhbachgniipaaGreatDoor
set_option linter.unusedVariables false
set_option linter.unusedSimpArgs false
open Go.RowKit
theorem wpList_slice_to {P : Program} {t e : TypeId} {sz bytes : Nat} {w : World} {ops : Array Oper} {rest : List Oper} {o : Oper} {a : Act} {Q : Exit → Act → World → Prop} (hgd : o.guard = none) (E : Elt P t e sz bytes) (x y : Operand) (ho : o.op = .slice t x none (some y) none)
    (A : Option Addr) (n c i : Nat) (hx : a.eval x = .slice A n c) (hy : a.eval y = .int .i64 (i : Int)) (h : i ≤ n) (hc : n ≤ c) (k : wpList P ops Q rest (a.put o.dst (.slice A i c)) w) : wpList P ops Q (o :: rest) a w :=
  wpList_plain hgd fun K hK => by
    obtain ⟨inf, z, hi', hz, hsz, hby, hzc⟩ := E.hi
    have h0 := E.ht
    have he : P.elem t = e := by simp [Program.elem, h0]
    have h2 : P.underlying t = some (.slice (P.elem t)) := by rw [he]; exact h0
    have hr : (Instr.sliceAt t (.slice A n c) none (some (.int .i64 (i : Int))) none).run P w = .ok (.slice A i c) w := by
      rw [run_sliceAt_slice _ t _ _ _ _ h2, run_slice_h _ t A n c h2 .i64 i (by omega) (by omega), he]
      simp [sizeOf, typeInfo, hi', hsz, sliced, Result.andThen, Addr.add]
    unfold Oper.wp execOp
    simp [ho, hx, hy, hr, Oper.upon]
    exact hK _ _ k
theorem sl_pre {α : Type} {d : Rd α} {w : World} {A : Option Addr} {n m : Nat} {xs ys : List α} (h : d.Sl w A n (xs ++ ys)) (hm : xs.length = m) : d.Sl w A m xs := by
  subst hm
  refine ⟨rfl, fun h0 => ?_⟩
  have hn := h.1
  rw [List.length_append] at hn
  obtain ⟨b, o, e, hc⟩ := h.2 (by omega)
  refine ⟨b, o, e, fun i hi => ?_⟩
  have := hc i (by rw [List.length_append]; omega)
  rwa [List.getElem_append_left hi] at this
theorem CmdOwn.only {w : World} {lo hi : Nat} {c : Cmd} {C : Array Value} (h : CmdOwn w lo hi c C) (hh : hi ≤ w.heap.size) : CmdAt (only w lo hi) c C := by
  obtain ⟨a, b, e, l, k, h1, h2, h3, h4⟩ := h
  exact ⟨a, b, e, h3.mono (only_wide h1 h2), h4.mono (gap_cle _ _ _ _ _ hh)⟩
theorem CmdOwn.ext {w w' : World} {lo hi : Nat} {c : Cmd} {C : Array Value} (h : CmdOwn w lo hi c C) (hE : Ext w w') (hh : hi ≤ w.heap.size) : CmdOwn w' lo hi c C := by
  obtain ⟨a, b, e, l, k, h1, h2, h3, h4⟩ := h
  exact ⟨a, b, e, l, k, h1, h2, by rw [only_ext hE (Nat.le_trans h2 hh)]; exact h3, by rw [gap_keep hE.exc hh]; exact h4⟩
theorem AnsOwn.only {w : World} {lo hi : Nat} {x : Ans} {C : Array Value} (h : AnsOwn w lo hi x C) : AnsAt (only w lo hi) x C := h
theorem AnsOwn.ext {w w' : World} {lo hi : Nat} {x : Ans} {C : Array Value} (h : AnsOwn w lo hi x C) (hE : Ext w w') (hh : hi ≤ w.heap.size) : AnsOwn w' lo hi x C := by
  unfold AnsOwn
  rw [only_ext hE hh]
  exact h
theorem cmdAt_exc {w w' : World} {lo hi l h : Nat} {c : Cmd} {C : Array Value} (k : CmdAt (only w lo hi) c C) (hX : Exc l h w w') (hh : hi ≤ w.heap.size) (hd : hi ≤ l ∨ h ≤ lo) : CmdAt (only w' lo hi) c C := by
  rw [hX.only hh hd]; exact k
theorem ansAt_exc {w w' : World} {lo hi l h : Nat} {c : Ans} {C : Array Value} (k : AnsAt (only w lo hi) c C) (hX : Exc l h w w') (hh : hi ≤ w.heap.size) (hd : hi ≤ l ∨ h ≤ lo) : AnsAt (only w' lo hi) c C := by
  rw [hX.only hh hd]; exact k
theorem CmdOwn.row {w : World} {lo hi : Nat} {c : Cmd} {C : Array Value} (h : CmdOwn w lo hi c C) : C.size = 47 ∧ C.all (·.oneCell') = true := by
  obtain ⟨a, b, rfl, l, k, _, _, ⟨_, _, rfl, -⟩, ⟨_, _, rfl, -⟩⟩ := h
  exact ⟨rfl, one_cmd _ _ _ rfl rfl⟩
theorem rcgetq_any (w : World) (A : Option Addr) (n c : Nat) (l : List UInt8) (hS : Rd.u8.Sl w A n l) (hc : n ≤ c) (hn : n ≤ 4294967296) (r : Cmd) (v : Int) (hg : getC l = (r, v)) :
    Calls Tryz.prog 28 #[.slice A n c] w fun e w' => ∃ C, e = .returned (.tuple #[.agg C, .int .i64 v]) ∧ CmdAt (only w' w.heap.size w'.heap.size) r C ∧ Ext w w' := by
  obtain rfl : n = l.length := hS.1.symm
  refine (rcget_any w A c l hS hc hn).mono ?_
  intro e w' h
  unfold RGetC at h
  rw [hg] at h
  exact h
theorem agetq_any (w : World) (A : Option Addr) (n c : Nat) (l : List UInt8) (hS : Rd.u8.Sl w A n l) (hc : n ≤ c) (hn : n ≤ 4294967296) (r : Ans) (v : Int) (hg : getA l = (r, v)) :
    Calls Tryz.prog 29 #[.slice A n c] w fun e w' => ∃ C, e = .returned (.tuple #[.agg C, .int .i64 v]) ∧ AnsOwn w' w.heap.size w'.heap.size r C ∧ Ext w w' := by
  obtain rfl : n = l.length := hS.1.symm
  refine (aget_any w A c l hS hc hn).mono ?_
  intro e w' h
  unfold GetA at h
  rw [hg] at h
  exact h
theorem ragetq_any (w : World) (A : Option Addr) (n c : Nat) (l : List UInt8) (hS : Rd.u8.Sl w A n l) (hc : n ≤ c) (hn : n ≤ 4294967296) (r : Ans) (v : Int) (hg : getA l = (r, v)) :
    Calls Tryz.prog 30 #[.slice A n c] w fun e w' => ∃ C, e = .returned (.tuple #[.agg C, .int .i64 v]) ∧ AnsAt (only w' w.heap.size w'.heap.size) r C ∧ Ext w w' := by
  obtain rfl : n = l.length := hS.1.symm
  refine (raget_any w A c l hS hc hn).mono ?_
  intro e w' h
  unfold RGetA at h
  rw [hg] at h
  exact h
theorem spoilcq_any (w : World) (lo hi : Nat) (hh : hi ≤ w.heap.size) (c : Cmd) (C : Array Value) (h : CmdOwn w lo hi c C) (hf : CmdFit c) : Calls Tryz.prog 31 #[.agg C] w fun e w' => e = .returned (.tuple #[]) ∧ Exc lo hi w w' := by
  obtain ⟨a, b, rfl, h1⟩ := h
  exact spoilCommand_any w lo hi hh c a b h1 (by have := hf.tok.2.2.1.1; omega) (by have := hf.bodies.1; omega) (fun x hx => by have := hf.bodies.2 x hx; omega)
theorem spoilaq_any (w : World) (lo hi : Nat) (hh : hi ≤ w.heap.size) (x : Ans) (C : Array Value) (h : AnsOwn w lo hi x C) (hf : AnsFit x) : Calls Tryz.prog 32 #[.agg C] w fun e w' => e = .returned (.tuple #[]) ∧ Exc lo hi w w' := by
  obtain ⟨s, a, e, rfl, h1, h2, h3⟩ := h
  exact spoilAnswer_any w lo hi hh x s a e h1 h2 h3 (by have := hf.tok.2.2.1.1; omega) (by have := hf.shown.1; omega) (fun y hy => by have := (hf.shown.2 y hy).2.2.2.2.2; omega) (by have := hf.ents.1; omega)
set_option maxHeartbeats 9000000 in
set_option maxRecDepth 100000 in
theorem gets_walk (w : World) (A : Option Addr) (c : Nat) (l : List UInt8) (hO : OfAt w) (hS : Rd.u8.Sl w A l.length l) (hc : l.length ≤ c) (hn : l.length ≤ 140737488351232) :
    Calls Tryz.prog 5 #[.slice A l.length c] w fun e w' => e = .returned (.bool true) ∧ Ext w w' := by
  have hwo := fun (w' : World) (e : Ext w w') => works_any w' (hO.ext e)
  obtain ⟨n, hln⟩ : ∃ n, l.length = n := ⟨_, rfl⟩
  by_cases hbig : 32768 < n
  · rw [hln] at hc hn ⊢
    go_enter Tryz.func5, Tryz.ntmps5
    go_wp2_with (go_at_call 10; (with_reducible refine (hwo _ (Ext.refl _)).mono ?_); rintro e w2 ⟨rfl, hE2⟩)
    go_ret
    exact ⟨rfl, hE2⟩
  have hlb := lentBytes_any w A c l hS hc (by omega)
  obtain ⟨⟨r, v⟩, hg⟩ : ∃ p, getC l = p := ⟨_, rfl⟩
  obtain ⟨⟨x, u⟩, hga⟩ : ∃ p, getA l = p := ⟨_, rfl⟩
  have hfit := c_fit l
  rw [hg] at hfit
  have hfit : CmdFit r := hfit
  have hfita := a_fit l
  rw [hga] at hfita
  have hfita : AnsFit x := hfita
  have hcg := fun (w' : World) (e : Ext w w') A1 c1 (h1 : Rd.u8.Sl w' A1 n l) (h2 : n ≤ c1) => cgetq_any w' A1 n c1 l (hO.ext e) h1 h2 (by omega) r v hg
  have hrc := fun (w' : World) (e : Ext w w') => rcgetq_any w' A l.length c l (hS.ext e) hc (by omega) r v hg
  have hag := fun (w' : World) A1 c1 (h1 : Rd.u8.Sl w' A1 n l) (h2 : n ≤ c1) => agetq_any w' A1 n c1 l h1 h2 (by omega) x u hga
  have hra := fun (w' : World) (e : Ext w w') => ragetq_any w' A l.length c l (hS.ext e) hc (by omega) x u hga
  have hsc := fun (w' : World) C1 C2 h1 h2 => samecq_any w' r C1 C2 h1 h2 hfit.fitL.len
  have hsa := fun (w' : World) C1 C2 h1 h2 => sameaq_any w' x C1 C2 h1 h2 hfita.fitL.len
  have hspc := fun (w' : World) lo hi hh C h => spoilcq_any w' lo hi hh r C h hfit
  have hspa := fun (w' : World) lo hi hh C h => spoilaq_any w' lo hi hh x C h hfita
  have hkb := fun (w' : World) (h : Ext w w') A1 c1 h1 h2 h3 => keptBytes_any w' A c l (hS.ext h) hc (by omega) A1 c1 h1 h2 h3
  rw [hln] at hlb hkb hrc hra hc ⊢
  clear hS hg hga hfit hfita hn
  go_enter Tryz.func5, Tryz.ntmps5
  go_upto_region 4 with (go_at_call 26; (with_reducible refine hlb.mono ?_); rintro e w1 ⟨v1, rfl, hown, hE1⟩)
  obtain ⟨A1, c1, rfl, h1c, h1m, h1S⟩ := own_bytes (lo := w.heap.size) (hi := w1.heap.size) (l := l ++ marksB 5) (by rw [List.length_append, marksB_len, hln]; exact hown) (Nat.le_refl _) (Nat.le_refl _)
  have hl5 : (l ++ marksB 5).length = n + 5 := by rw [List.length_append, marksB_len, hln]
  rw [hl5] at h1c h1S ⊢
  have hpre := sl_pre (h1S.mono only_cle) hln
  have hn5 : n ≤ n + 5 := by omega
  have hnc : n ≤ c1 := by omega
  clear hown hlb hl5
  go_upto_region 5 with (first | (refine wpList_slice_to rfl elt_bytes (.tmp 23) (.tmp 25) rfl A1 (n + 5) c1 n rfl rfl hn5 h1c ?_) | (go_at_call 27; (with_reducible refine (hcg _ hE1 _ _ hpre hnc).mono ?_); rintro e w2 ⟨C2, rfl, o2, hE2⟩; obtain ⟨z1, z2⟩ := o2.row; obtain ⟨V2, hr, D2, hEV2⟩ := box_row w2 31 #[.int .i64 0, .string ⟨#[]⟩, .int .i64 0, .slice none 0 0, .int .u8 0, .int .u8 0, .int .u8 0, .int .u8 0, .int .u8 0, .int .u8 0, .int .u8 0, .int .u8 0, .int .u8 0, .int .u8 0, .int .u8 0, .int .u8 0, .int .u8 0, .int .u8 0, .int .u8 0, .int .u8 0, .int .u8 0, .int .u8 0, .int .u8 0, .int .u8 0, .int .u8 0, .int .u8 0, .int .u8 0, .int .u8 0, .int .u8 0, .int .u8 0, .int .u8 0, .int .u8 0, .int .u8 0, .int .u8 0, .int .u8 0, .int .u8 0, .string ⟨#[]⟩, .string ⟨#[]⟩, .int .i64 0, .slice none 0 0, .int .i64 0, .int .i64 0, .int .i64 0, .string ⟨#[]⟩, .bool false, .int .i64 0, .int .i64 0] C2 z1.symm (by rw [z1]; kernel_rfl) z2) | (refine wpList_store_by rfl rfl ?_ ?_ hr ?_; (· rfl); (· rfl)))
  have hF2 := hE1.trans (hE2.trans hEV2)
  have hpre2 := hpre.ext (hE2.trans hEV2)
  clear hr z1 z2 hpre
  go_upto_region 6 with (first | (refine wpList_slice_to rfl elt_bytes (.tmp 31) (.tmp 33) rfl A1 (n + 5) c1 n rfl rfl hn5 h1c ?_) | (go_at_call 27; (with_reducible refine (hcg _ hF2 _ _ hpre2 hnc).mono ?_); rintro e w3 ⟨C3, rfl, o3, hE3⟩; obtain ⟨z1, z2⟩ := o3.row; obtain ⟨V3, hr, D3, hEV3⟩ := box_row w3 31 #[.int .i64 0, .string ⟨#[]⟩, .int .i64 0, .slice none 0 0, .int .u8 0, .int .u8 0, .int .u8 0, .int .u8 0, .int .u8 0, .int .u8 0, .int .u8 0, .int .u8 0, .int .u8 0, .int .u8 0, .int .u8 0, .int .u8 0, .int .u8 0, .int .u8 0, .int .u8 0, .int .u8 0, .int .u8 0, .int .u8 0, .int .u8 0, .int .u8 0, .int .u8 0, .int .u8 0, .int .u8 0, .int .u8 0, .int .u8 0, .int .u8 0, .int .u8 0, .int .u8 0, .int .u8 0, .int .u8 0, .int .u8 0, .int .u8 0, .string ⟨#[]⟩, .string ⟨#[]⟩, .int .i64 0, .slice none 0 0, .int .i64 0, .int .i64 0, .int .i64 0, .string ⟨#[]⟩, .bool false, .int .i64 0, .int .i64 0] C3 z1.symm (by rw [z1]; kernel_rfl) z2) | (refine wpList_store_by rfl rfl ?_ ?_ hr ?_; (· rfl); (· rfl)))
  have hF3 := hF2.trans (hE3.trans hEV3)
  have hpre3 := hpre2.ext (hE3.trans hEV3)
  clear hr z1 z2 hpre2
  go_upto_region 7 with (first | (go_at_call 28; (with_reducible refine (hrc _ hF3).mono ?_); rintro e w4 ⟨C4, rfl, o4, hE4⟩; obtain ⟨z1, z2⟩ := o4.row; obtain ⟨V4, hr, D4, hEV4⟩ := box_row w4 31 #[.int .i64 0, .string ⟨#[]⟩, .int .i64 0, .slice none 0 0, .int .u8 0, .int .u8 0, .int .u8 0, .int .u8 0, .int .u8 0, .int .u8 0, .int .u8 0, .int .u8 0, .int .u8 0, .int .u8 0, .int .u8 0, .int .u8 0, .int .u8 0, .int .u8 0, .int .u8 0, .int .u8 0, .int .u8 0, .int .u8 0, .int .u8 0, .int .u8 0, .int .u8 0, .int .u8 0, .int .u8 0, .int .u8 0, .int .u8 0, .int .u8 0, .int .u8 0, .int .u8 0, .int .u8 0, .int .u8 0, .int .u8 0, .int .u8 0, .string ⟨#[]⟩, .string ⟨#[]⟩, .int .i64 0, .slice none 0 0, .int .i64 0, .int .i64 0, .int .i64 0, .string ⟨#[]⟩, .bool false, .int .i64 0, .int .i64 0] C4 z1.symm (by rw [z1]; kernel_rfl) z2) | (refine wpList_store_by rfl rfl ?_ ?_ hr ?_; (· rfl); (· rfl)))
  have hF4 := hF3.trans (hE4.trans hEV4)
  have hpre4 := hpre3.ext (hE4.trans hEV4)
  clear hr z1 z2 hpre3
  go_upto_region 8 with (first | (refine wpList_slice_to rfl elt_bytes (.tmp 44) (.tmp 46) rfl A1 (n + 5) c1 n rfl rfl hn5 h1c ?_) | (go_at_call 29; (with_reducible refine (hag _ _ _ hpre4 hnc).mono ?_); rintro e w5 ⟨C5, rfl, o5, hE5⟩; obtain ⟨z1, z2⟩ := o5.only.row; obtain ⟨V5, hr, D5, hEV5⟩ := box_row w5 46 #[.int .i64 0, .int .i64 0, .slice none 0 0, .string ⟨#[]⟩, .int .i64 0, .slice none 0 0, .int .u8 0, .int .u8 0, .int .u8 0, .int .u8 0, .int .u8 0, .int .u8 0, .int .u8 0, .int .u8 0, .int .u8 0, .int .u8 0, .int .u8 0, .int .u8 0, .int .u8 0, .int .u8 0, .int .u8 0, .int .u8 0, .int .u8 0, .int .u8 0, .int .u8 0, .int .u8 0, .int .u8 0, .int .u8 0, .int .u8 0, .int .u8 0, .int .u8 0, .int .u8 0, .int .u8 0, .int .u8 0, .int .u8 0, .int .u8 0, .int .u8 0, .int .u8 0, .slice none 0 0] C5 z1.symm (by rw [z1]; kernel_rfl) z2) | (refine wpList_store_by rfl rfl ?_ ?_ hr ?_; (· rfl); (· rfl)))
  have hF5 := hF4.trans (hE5.trans hEV5)
  have hpre5 := hpre4.ext (hE5.trans hEV5)
  clear hr z1 z2 hpre4
  go_upto_region 9 with (first | (refine wpList_slice_to rfl elt_bytes (.tmp 52) (.tmp 54) rfl A1 (n + 5) c1 n rfl rfl hn5 h1c ?_) | (go_at_call 29; (with_reducible refine (hag _ _ _ hpre5 hnc).mono ?_); rintro e w6 ⟨C6, rfl, o6, hE6⟩; obtain ⟨z1, z2⟩ := o6.only.row; obtain ⟨V6, hr, D6, hEV6⟩ := box_row w6 46 #[.int .i64 0, .int .i64 0, .slice none 0 0, .string ⟨#[]⟩, .int .i64 0, .slice none 0 0, .int .u8 0, .int .u8 0, .int .u8 0, .int .u8 0, .int .u8 0, .int .u8 0, .int .u8 0, .int .u8 0, .int .u8 0, .int .u8 0, .int .u8 0, .int .u8 0, .int .u8 0, .int .u8 0, .int .u8 0, .int .u8 0, .int .u8 0, .int .u8 0, .int .u8 0, .int .u8 0, .int .u8 0, .int .u8 0, .int .u8 0, .int .u8 0, .int .u8 0, .int .u8 0, .int .u8 0, .int .u8 0, .int .u8 0, .int .u8 0, .int .u8 0, .int .u8 0, .slice none 0 0] C6 z1.symm (by rw [z1]; kernel_rfl) z2) | (refine wpList_store_by rfl rfl ?_ ?_ hr ?_; (· rfl); (· rfl)))
  have hF6 := hF5.trans (hE6.trans hEV6)
  clear hr z1 z2 hpre5
  go_upto_region 10 with (first | (go_at_call 30; (with_reducible refine (hra _ hF6).mono ?_); rintro e w7 ⟨C7, rfl, o7, hE7⟩; obtain ⟨z1, z2⟩ := o7.row; obtain ⟨V7, hr, D7, hEV7⟩ := box_row w7 46 #[.int .i64 0, .int .i64 0, .slice none 0 0, .string ⟨#[]⟩, .int .i64 0, .slice none 0 0, .int .u8 0, .int .u8 0, .int .u8 0, .int .u8 0, .int .u8 0, .int .u8 0, .int .u8 0, .int .u8 0, .int .u8 0, .int .u8 0, .int .u8 0, .int .u8 0, .int .u8 0, .int .u8 0, .int .u8 0, .int .u8 0, .int .u8 0, .int .u8 0, .int .u8 0, .int .u8 0, .int .u8 0, .int .u8 0, .int .u8 0, .int .u8 0, .int .u8 0, .int .u8 0, .int .u8 0, .int .u8 0, .int .u8 0, .int .u8 0, .int .u8 0, .int .u8 0, .slice none 0 0] C7 z1.symm (by rw [z1]; kernel_rfl) z2) | (refine wpList_store_by rfl rfl ?_ ?_ hr ?_; (· rfl); (· rfl)))
  have hF7 := hF6.trans (hE7.trans hEV7)
  clear hr z1 z2
  have X7 : Ext V6 V7 := hE7.trans hEV7
  have X6 : Ext V5 V7 := (hE6.trans hEV6).trans X7
  have X5 : Ext V4 V7 := (hE5.trans hEV5).trans X6
  have X4 : Ext V3 V7 := (hE4.trans hEV4).trans X5
  have X3 : Ext V2 V7 := (hE3.trans hEV3).trans X4
  have X2 : Ext w1 V7 := (hE2.trans hEV2).trans X3
  have n2 : w2.heap.size < V2.heap.size := D2.lt
  have n3 : w3.heap.size < V3.heap.size := D3.lt
  have n4 : w4.heap.size < V4.heap.size := D4.lt
  have n5 : w5.heap.size < V5.heap.size := D5.lt
  have n6 : w6.heap.size < V6.heap.size := D6.lt
  have k1 := hE2.le
  have k2 := hEV2.le
  have k3 := hE3.le
  have k4 := hEV3.le
  have k5 := hE4.le
  have k6 := hEV4.le
  have k7 := hE5.le
  have k8 := hEV5.le
  have k9 := hE6.le
  have k10 := hEV6.le
  have k11 := hE7.le
  have k12 := hEV7.le
  have k0 := hE1.le
  have o2 := o2.ext (hEV2.trans X3) (Nat.le_refl _)
  have o3 := (o3.only (Nat.le_refl _)).only (hEV3.trans X4) (Nat.le_refl _)
  have o4 := o4.only (hEV4.trans X5) (Nat.le_refl _)
  have o5 := o5.ext (hEV5.trans X6) (Nat.le_refl _)
  have o6 := o6.only.only (hEV6.trans X7) (Nat.le_refl _)
  have o7 := o7.only hEV7 (Nat.le_refl _)
  have D2 := D2.ext X3
  have D3 := D3.ext X4
  have D4 := D4.ext X5
  have D5 := D5.ext X6
  have D6 := D6.ext X7
  have oS := only_sl h1S X2 (Nat.le_refl _)
  have r2 := o2.row.1
  have r3 := o3.row.1
  have r4 := o4.row.1
  have r5 := o5.only.row.1
  have r6 := o6.row.1
  have r7 := o7.row.1
  have l2 := fun (w' : World) (e : Ext V7 w') => load_whole (D2.ext e) 31 _ Tryz.underlying31 rfl (by rw [r2]; kernel_rfl)
  have l4 := fun (w' : World) (e : Ext V7 w') => load_whole (D4.ext e) 31 _ Tryz.underlying31 rfl (by rw [r4]; kernel_rfl)
  have l5 := fun (w' : World) (e : Ext V7 w') => load_whole (D5.ext e) 46 _ Tryz.underlying46 rfl (by rw [r5]; kernel_rfl)
  have l7 := fun (w' : World) (e : Ext V7 w') => load_whole (D7.ext e) 46 _ Tryz.underlying46 rfl (by rw [r7]; kernel_rfl)
  have a2 := (o2.only (by omega)).mono only_cle
  have a4 := o4.mono only_cle
  have a5 := fun (w' : World) (e : Ext V7 w') => (o5.only.mono only_cle).ext e
  have a7 := fun (w' : World) (e : Ext V7 w') => (o7.mono only_cle).ext e
  have eY := Ext.refl V7
  clear h1S hE2 hE3 hE4 hE5 hE6 hE7 hEV2 hEV3 hEV4 hEV5 hEV6 hEV7 hF2 hF3 hF4 hF5 hF6 hcg hrc hag hra X2 X3 X4 X5 X6 X7
  go_upto_region 12 with (first | (refine wpList_load_w rfl rfl ?_ (l2 _ eY) ?_; (· rfl)) | (refine wpList_load_w rfl rfl ?_ (l4 _ eY) ?_; (· rfl)) | (go_at_call 18; (with_reducible refine (hsc _ _ _ a2 a4).mono ?_); rintro e w8 ⟨rfl, hE8⟩) | (refine wpList_load_w rfl rfl ?_ (l5 _ hE8) ?_; (· rfl)) | (refine wpList_load_w rfl rfl ?_ (l7 _ hE8) ?_; (· rfl)) | (go_at_call 25; (with_reducible refine (hsa _ _ _ (a5 _ hE8) (a7 _ hE8)).mono ?_); rintro e w9 ⟨rfl, hE9⟩))
  have hE89 := hE8.trans hE9
  have m1 := hE89.le
  have o2 := o2.ext hE89 (by omega)
  have o5 := o5.ext hE89 (by omega)
  have o3 := o3.only hE89 (by omega)
  have o4 := o4.only hE89 (by omega)
  have o6 := o6.only hE89 (by omega)
  have o7 := o7.only hE89 (by omega)
  have oS := only_sl oS hE89 (by omega)
  have l2 := l2 _ hE89
  have D3 := D3.ext hE89
  have D4 := D4.ext hE89
  have D5 := D5.ext hE89
  have D6 := D6.ext hE89
  have D7 := D7.ext hE89
  have hF9 := hF7.trans hE89
  clear a2 a4 a5 a7 l4 l5 l7 hE8 hE9 hE89 hF7 eY D2
  go_upto_region 13 with (first | (refine wpList_load_by rfl rfl ?_ l2 ?_; (· rfl)) | (go_at_call 31; (with_reducible refine (hspc _ _ _ (by omega) _ o2).mono ?_); rintro e w10 ⟨rfl, hX10⟩))
  have m2 := hX10.size
  have hF10 : Ext w w10 := Exc.ext hF9 hX10 (by omega)
  have o5b : AnsOwn w10 V4.heap.size w5.heap.size x C5 := by
    unfold AnsOwn
    rw [hX10.only (by omega) (.inr (by omega))]
    exact o5
  have o3 := cmdAt_exc o3 hX10 (by omega) (.inr (by omega))
  have o4 := cmdAt_exc o4 hX10 (by omega) (.inr (by omega))
  have o6 := ansAt_exc o6 hX10 (by omega) (.inr (by omega))
  have o7 := ansAt_exc o7 hX10 (by omega) (.inr (by omega))
  have oS := only_slx oS hX10 (by omega) (.inl (by omega))
  have D3 := hX10.blk D3 (.inr (by omega))
  have D4 := hX10.blk D4 (.inr (by omega))
  have D5 := hX10.blk D5 (.inr (by omega))
  have D6 := hX10.blk D6 (.inr (by omega))
  have D7 := hX10.blk D7 (.inr (by omega))
  have l5 := load_whole D5 46 _ Tryz.underlying46 rfl (by rw [r5]; kernel_rfl)
  clear hX10 o2 l2 hF9 o5
  go_upto_region 14 with (first | (refine wpList_load_by rfl rfl ?_ l5 ?_; (· rfl)) | (go_at_call 32; (with_reducible refine (hspa _ _ _ (by omega) _ o5b).mono ?_); rintro e w11 ⟨rfl, hX11⟩))
  have m3 := hX11.size
  have hF11 : Ext w w11 := Exc.ext hF10 hX11 (by omega)
  have o3 := (cmdAt_exc o3 hX11 (by omega) (.inl (by omega))).mono only_cle
  have o4 := (cmdAt_exc o4 hX11 (by omega) (.inl (by omega))).mono only_cle
  have o6 := (ansAt_exc o6 hX11 (by omega) (.inr (by omega))).mono only_cle
  have o7 := (ansAt_exc o7 hX11 (by omega) (.inr (by omega))).mono only_cle
  have oS := (only_slx oS hX11 (by omega) (.inl (by omega))).mono only_cle
  have D3 := hX11.blk D3 (.inl (by omega))
  have D4 := hX11.blk D4 (.inl (by omega))
  have D6 := hX11.blk D6 (.inr (by omega))
  have D7 := hX11.blk D7 (.inr (by omega))
  have l3 := load_whole D3 31 _ Tryz.underlying31 rfl (by rw [r3]; kernel_rfl)
  have l4 := load_whole D4 31 _ Tryz.underlying31 rfl (by rw [r4]; kernel_rfl)
  have l6 := fun (w' : World) (e : Ext w11 w') => load_whole (D6.ext e) 46 _ Tryz.underlying46 rfl (by rw [r6]; kernel_rfl)
  have l7 := fun (w' : World) (e : Ext w11 w') => load_whole (D7.ext e) 46 _ Tryz.underlying46 rfl (by rw [r7]; kernel_rfl)
  clear hX11 l5 hF10 o5b D5
  go_wp2_with (first | (refine wpList_load_w rfl rfl ?_ l3 ?_; (· rfl)) | (refine wpList_load_w rfl rfl ?_ l4 ?_; (· rfl)) | (go_at_call 18; (with_reducible refine (hsc _ _ _ o3 o4).mono ?_); rintro e w12 ⟨rfl, hE12⟩) | (refine wpList_load_w rfl rfl ?_ (l6 _ hE12) ?_; (· rfl)) | (refine wpList_load_w rfl rfl ?_ (l7 _ hE12) ?_; (· rfl)) | (go_at_call 25; (with_reducible refine (hsa _ _ _ (o6.ext hE12) (o7.ext hE12)).mono ?_); rintro e w13 ⟨rfl, hE13⟩; have hF13 := hF11.trans (hE12.trans hE13); have oT := oS.ext (hE12.trans hE13)) | (go_at_call 33; (with_reducible refine (hkb _ hF13 _ _ oT h1c h1m).mono ?_); rintro e w14 ⟨rfl, hE14⟩) | (go_at_call 10; (with_reducible refine (hwo _ (hF13.trans hE14)).mono ?_); rintro e w15 ⟨rfl, hE15⟩))
  go_ret
  exact ⟨rfl, (hF13.trans hE14).trans hE15⟩
end Go.Proofs.YtgfhbachgniipaaGreatDoor
