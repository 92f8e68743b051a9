/- Commands and answers as wholes; the chapter's append, there and back. (and what follows) -/
import Derived.Test.YtgfhbachgniipaaDoorMz
import Derived.Test.YtgfhbachgniipaaDoorM7
import Derived.Test.YtgfhbachgniipaaDoorM8
import Derived.Test.YtgfhbachgniipaaDoorRows
import Derived.Lib.LaidTab
import Derived.Stop.LaidErr
set_option linter.unusedVariables false
set_option linter.unusedSimpArgs false
namespace Go.Proofs.YtgfhbachgniipaaDoor
open Go.RowKit
def CmdAt (w : World) (c : Cmd) (C : Array Value) : Prop := ∃ a b, C = cmdA c a b ∧ GsV w c.tok.gs a ∧ BsV w c.bodies b
def AnsAt (w : World) (x : Ans) (C : Array Value) : Prop := ∃ s a e, C = ansA x s a e ∧ HsV w x.shown s ∧ GsV w x.tok.gs a ∧ EsV w x.ents e
def CmdOwn (w : World) (lo hi : Nat) (c : Cmd) (C : Array Value) : Prop := ∃ a b, C = cmdA c a b ∧ CmdIn w lo hi c a b
theorem CmdAt.mono {w w' : World} {c : Cmd} {C : Array Value} (h : CmdAt w c C) (k : Cle w w') : CmdAt w' c C := by
  obtain ⟨a, b, e, h1, h2⟩ := h
  exact ⟨a, b, e, h1.mono k, h2.mono k⟩
theorem AnsAt.mono {w w' : World} {x : Ans} {C : Array Value} (h : AnsAt w x C) (k : Cle w w') : AnsAt w' x C := by
  obtain ⟨s, a, e, e1, h1, h2, h3⟩ := h
  exact ⟨s, a, e, e1, h1.mono k, h2.mono k, h3.mono k⟩
theorem CmdAt.ext {w w' : World} {c : Cmd} {C : Array Value} (h : CmdAt w c C) (k : Ext w w') : CmdAt w' c C := h.mono k.cle
theorem AnsAt.ext {w w' : World} {x : Ans} {C : Array Value} (h : AnsAt w x C) (k : Ext w w') : AnsAt w' x C := h.mono k.cle
theorem CmdOwn.at_ {w : World} {lo hi : Nat} {c : Cmd} {C : Array Value} (h : CmdOwn w lo hi c C) (hh : hi ≤ w.heap.size) : CmdAt w c C := by
  obtain ⟨a, b, e, l, k, h1, h2, h3, h4⟩ := h
  exact ⟨a, b, e, h3.mono only_cle, h4.mono ((gap_cle _ _ _ _ _ hh).trans only_cle)⟩
theorem CmdAt.row {w : World} {c : Cmd} {C : Array Value} (h : CmdAt w c C) : C.size = 47 ∧ C.all (·.oneCell') = true := by
  obtain ⟨a, b, rfl, ⟨_, _, rfl, -⟩, ⟨_, _, rfl, -⟩⟩ := h
  exact ⟨rfl, one_cmd _ _ _ rfl rfl⟩
theorem one_ans (x : Ans) (s a e : Value) (h : s.oneCell' = true) (h' : a.oneCell' = true) (h'' : e.oneCell' = true) : (ansA x s a e).all (·.oneCell') = true := by simp [ansA, mb, oc_int, oc_str, h, h', h'']
theorem AnsAt.row {w : World} {x : Ans} {C : Array Value} (h : AnsAt w x C) : C.size = 39 ∧ C.all (·.oneCell') = true := by
  obtain ⟨s, a, e, rfl, ⟨_, _, rfl, -⟩, ⟨_, _, rfl, -⟩, ⟨_, _, rfl, -⟩⟩ := h
  exact ⟨rfl, one_ans _ _ _ _ rfl rfl rfl⟩
def putB (c : Cmd) : List UInt8 := if cmdG c = 0 then cmdB c else []
def putAB (x : Ans) : List UInt8 := if ansG x = 0 then ansB x else []
def PutQ (w : World) (b : List UInt8) (v : Int) (e : Ending) (w' : World) : Prop := ∃ A n c, e = .returned (.tuple #[.slice A n c, .int .i64 v]) ∧ b.length = n ∧ n ≤ c ∧ c ≤ maxLen ∧ Rd.u8.Sl (only w' w.heap.size w'.heap.size) A n b ∧ Ext w w'
theorem OwnN.own {B N : Nat} {w : World} {v : Value} {L : List UInt8} (h : OwnN B N w v L) : ∃ A c, v = .slice A L.length c ∧ L.length ≤ c ∧ c ≤ maxLen ∧ Rd.u8.Sl (only w B w.heap.size) A L.length L := own_bytes (lo := B) (hi := w.heap.size) h.1 (Nat.le_refl _) (Nat.le_refl _)
theorem putQ_C {w w' : World} {c : Cmd} {e : Ending} (h : PutC w c e w') : PutQ w (putB c) (cmdG c) e w' := by
  obtain ⟨h1, h2, hE⟩ := h
  unfold PutQ putB
  by_cases hz : cmdG c = 0
  · rw [if_pos hz, hz]
    obtain ⟨u, rfl, hO⟩ := h2 hz
    obtain ⟨A, c, rfl, h3, h4, h5⟩ := hO.own
    exact ⟨A, _, c, rfl, rfl, h3, h4, h5, hE⟩
  · rw [if_neg hz]
    rw [h1 hz]
    exact ⟨none, 0, 0, rfl, rfl, Nat.le_refl _, by decide, Rd.Sl.none _ _ none, hE⟩
theorem putQ_A {w w' : World} {x : Ans} {e : Ending} (h : PutA w x e w') : PutQ w (putAB x) (ansG x) e w' := by
  obtain ⟨h1, h2, hE⟩ := h
  unfold PutQ putAB
  by_cases hz : ansG x = 0
  · rw [if_pos hz, hz]
    obtain ⟨u, rfl, hO⟩ := h2 hz
    obtain ⟨A, c, rfl, h3, h4, h5⟩ := hO.own
    exact ⟨A, _, c, rfl, rfl, h3, h4, h5, hE⟩
  · rw [if_neg hz]
    rw [h1 hz]
    exact ⟨none, 0, 0, rfl, rfl, Nat.le_refl _, by decide, Rd.Sl.none _ _ none, hE⟩
theorem cputq_any (w : World) (c : Cmd) (C : Array Value) (hO : OfAt w) (h : CmdAt w c C) (hf : CmdFitL c) : Calls Tryd.prog 11 #[.agg C] w (PutQ w (putB c) (cmdG c)) := by
  obtain ⟨a, b, rfl, h1, h2⟩ := h
  exact (cput_any w c a b hO h1 h2 hf).mono fun _ _ => putQ_C
theorem aputq_any (w : World) (x : Ans) (C : Array Value) (h : AnsAt w x C) (hf : AnsFitL x) : Calls Tryd.prog 25 #[.agg C] w (PutQ w (putAB x) (ansG x)) := by
  obtain ⟨s, a, e, rfl, h1, h2, h3⟩ := h
  exact (aput_any w x s a e h1 h2 h3 hf).mono fun _ _ => putQ_A
theorem ccheckq_any (w : World) (c : Cmd) (C : Array Value) (hO : OfAt w) (h : CmdAt w c C) (hf : CmdLen c) : Calls Tryd.prog 7 #[.agg C] w fun e w' => e = .returned (.int .i64 (cmdG c)) ∧ Ext w w' := by
  obtain ⟨a, b, rfl, h1, h2⟩ := h
  exact cmdCheck_any w c a b hO h1 h2 hf
theorem samecq_any (w : World) (c : Cmd) (C C' : Array Value) (h : CmdAt w c C) (h' : CmdAt w c C') (hf : CmdLen c) : Calls Tryd.prog 26 #[.agg C, .agg C'] w fun e w' => e = .returned (.bool true) ∧ Ext w w' := by
  obtain ⟨a, b, rfl, h1, h2⟩ := h
  obtain ⟨a', b', rfl, h3, h4⟩ := h'
  exact sameCommand_any w c a b a' b' h1 h3 h2 h4 hf.n hf.m hf.x
theorem cgetq_any (w : World) (A : Option Addr) (n c : Nat) (l : List UInt8) (hO : OfAt w) (hS : Rd.u8.Sl w A n l) (hc : n ≤ c) (hn : n ≤ 4294967296) (r : Cmd) (v : Int) (hg : getC l = (r, v)) :
    Calls Tryd.prog 12 #[.slice A n c] w fun e w' => ∃ C, e = .returned (.tuple #[.agg C, .int .i64 v]) ∧ CmdOwn w' w.heap.size w'.heap.size r C ∧ Ext w w' := by
  obtain rfl : n = l.length := hS.1.symm
  refine (cget_any w A c l hO hS hc hn).mono ?_
  intro e w' h
  unfold GetC at h
  rw [hg] at h
  obtain ⟨a, b, rfl, h1, -, hE⟩ := h
  exact ⟨_, rfl, ⟨a, b, rfl, h1⟩, hE⟩
theorem blk_u8 {w : World} {g : Nat} {t : TypeId} {cs : Array Value} {l : List UInt8} (h : Blk w g t cs) (hc : cs.toList = l.flatMap encB) : Rd.u8.Sl w (some ⟨g, 0, none⟩) l.length l :=
  ⟨rfl, fun _ => ⟨g, 0, rfl, fun i hi => ⟨_, rfl, fun j u hu => by
    have hj : j = 0 := by
      have := (List.getElem?_eq_some_iff.1 hu).1
      simp at this; exact this
    subst hj
    have h1 := flat_get (f := encB) (sz := 1) encB_len l i 0 hi (by decide)
    rw [← hc] at h1
    have h2 := h.cell (i * 1 + 0) (v := u) (by rw [← Array.getElem?_toList, h1]; exact hu)
    simpa [Rd.u8] using h2⟩⟩⟩
theorem blk_one {w : World} {g : Nat} {t : TypeId} {A : Option Addr} {n c : Nat} {p : List UInt8} (h : Blk w g t #[.slice A n c]) (hp : p.length = n) (hc : n ≤ c) (hS : Rd.u8.Sl w A n p) : rdB.Sl w (some ⟨g, 0, none⟩) 1 [p] := by
  subst hp
  refine ⟨rfl, fun _ => ⟨g, 0, rfl, fun i hi => ?_⟩⟩
  have hi0 : i = 0 := by simpa using hi
  subst hi0
  refine ⟨_, ⟨A, c, rfl, hc, hS⟩, fun j u hu => ?_⟩
  have hj : j = 0 := by
    have := (List.getElem?_eq_some_iff.1 hu).1
    simp at this; exact this
  subst hj
  have h2 := h.cell 0 (v := u) (by simpa using hu)
  simpa using h2
set_option maxHeartbeats 9000000 in
set_option maxRecDepth 100000 in
theorem app_any (w : World) : Calls Tryd.prog 24 #[] w fun e w' => ∃ C, e = .returned (.agg C) ∧ CmdAt w' app1 C ∧ Ext w w' := by
  obtain ⟨W, hW, hE, -⟩ := box1 w #[.int .i64 0, .string ⟨#[]⟩, .int .i64 0, .slice none 0 0, .int .u8 0, .int .u8 0, .int .u8 0, .int .u8 0, .int .u8 0, .int .u8 0, .int .u8 0, .int .u8 0, .int .u8 0, .int .u8 0, .int .u8 0, .int .u8 0, .int .u8 0, .int .u8 0, .int .u8 0, .int .u8 0, .int .u8 0, .int .u8 0, .int .u8 0, .int .u8 0, .int .u8 0, .int .u8 0, .int .u8 0, .int .u8 0, .int .u8 0, .int .u8 0, .int .u8 0, .int .u8 0, .int .u8 0, .int .u8 0, .int .u8 0, .int .u8 0, .string ⟨#[]⟩, .string ⟨#[]⟩, .int .i64 0, .slice none 0 0, .int .i64 0, .int .i64 0, .int .i64 0, .string ⟨#[]⟩, .bool false, .int .i64 0, .int .i64 0] 32
  have B1 : Blk W w.heap.size 32 #[.int .i64 0, .string ⟨#[]⟩, .int .i64 0, .slice none 0 0, .int .u8 0, .int .u8 0, .int .u8 0, .int .u8 0, .int .u8 0, .int .u8 0, .int .u8 0, .int .u8 0, .int .u8 0, .int .u8 0, .int .u8 0, .int .u8 0, .int .u8 0, .int .u8 0, .int .u8 0, .int .u8 0, .int .u8 0, .int .u8 0, .int .u8 0, .int .u8 0, .int .u8 0, .int .u8 0, .int .u8 0, .int .u8 0, .int .u8 0, .int .u8 0, .int .u8 0, .int .u8 0, .int .u8 0, .int .u8 0, .int .u8 0, .int .u8 0, .string ⟨#[]⟩, .string ⟨#[]⟩, .int .i64 0, .slice none 0 0, .int .i64 0, .int .i64 0, .int .i64 0, .string ⟨#[]⟩, .bool false, .int .i64 0, .int .i64 0] := by rw [hW]; exact Blk.new _ _ _
  have hE1 : Ext W (W.alloc (.cells #[.int .u8 7] 5)) := (Ext.refl _).alloc _
  have E1 := Blk.new W 5 #[.int .u8 7]
  obtain ⟨V, hV⟩ : ∃ z, W.alloc (.cells #[.int .u8 7] 5) = z := ⟨_, rfl⟩
  rw [hV] at hE1 E1
  have hE2 : Ext V (V.alloc (.cells #[.slice (some ⟨W.heap.size, 0, none⟩) 1 1] 37)) := (Ext.refl _).alloc _
  have E2 := Blk.new V 37 #[.slice (some ⟨W.heap.size, 0, none⟩) 1 1]
  obtain ⟨U, hU⟩ : ∃ z, V.alloc (.cells #[.slice (some ⟨W.heap.size, 0, none⟩) 1 1] 37) = z := ⟨_, rfl⟩
  rw [hU] at hE2 E2
  obtain ⟨U2, hr, B2, hX⟩ := store_part (B1.ext (hE1.trans hE2)) 0 (cmdA app1 (.slice none 0 0) (.slice (some ⟨V.heap.size, 0, none⟩) 1 1)) [] [.int .i64 0, .string ⟨#[]⟩, .int .i64 0, .slice none 0 0, .int .u8 0, .int .u8 0, .int .u8 0, .int .u8 0, .int .u8 0, .int .u8 0, .int .u8 0, .int .u8 0, .int .u8 0, .int .u8 0, .int .u8 0, .int .u8 0, .int .u8 0, .int .u8 0, .int .u8 0, .int .u8 0, .int .u8 0, .int .u8 0, .int .u8 0, .int .u8 0, .int .u8 0, .int .u8 0, .int .u8 0, .int .u8 0, .int .u8 0, .int .u8 0, .int .u8 0, .int .u8 0, .int .u8 0, .int .u8 0, .int .u8 0, .int .u8 0, .string ⟨#[]⟩, .string ⟨#[]⟩, .int .i64 0, .slice none 0 0, .int .i64 0, .int .i64 0, .int .i64 0, .string ⟨#[]⟩, .bool false, .int .i64 0, .int .i64 0] [] rfl rfl rfl 32 (by kernel_rfl) (one_cmd _ _ _ rfl rfl)
  have B2 : Blk U2 w.heap.size 32 (cmdA app1 (.slice none 0 0) (.slice (some ⟨V.heap.size, 0, none⟩) 1 1)) := by simpa using B2
  have hs1 : w.heap.size < W.heap.size := B1.lt
  have hs2 : W.heap.size < V.heap.size := E1.lt
  go_enter Tryd.func24, Tryd.ntmps24
  go_upto_region 1 with fail
  rw [← hW]
  clear hW B1
  refine wp_region_lit ?_
  refine pl_v (v := ?_) (w1 := ?_) (a' := ?_) rfl (by rfl) ?_ ?_ ?_
  rotate_left 3
  · go_simp; refine ⟨?_, ?_⟩ <;> with_reducible rfl
  · simp only [Act.put, zzA, zz0, zzS]; rfl
  refine pl_v (v := ?_) (w1 := ?_) (a' := ?_) rfl (by rfl) ?_ ?_ ?_
  rotate_left 3
  · go_simp; refine ⟨?_, ?_⟩ <;> with_reducible rfl
  · simp only [Act.put, zzA, zz0, zzS]; rfl
  (first | (refine pl_off (a' := ?_) rfl (by rfl) ?_ ?_; rotate_left 1; (· simp only [Act.put, zzA, zz0, zzS]; rfl)) | (refine pl_y (v := ?_) (a' := ?_) rfl (by rfl) ?_ ?_ ?_; rotate_left 2; (· go_simp; with_reducible rfl); (· simp only [Act.put, zzA, zz0, zzS]; rfl)))
  refine pl_store (by rfl) rfl (run_op_store rfl ?_ ?_ hr) ?_
  · rfl
  · rfl
  refine wpList_nil ?_
  go_wp2_with fail
  refine bodyPost_ret (v := .agg (cmdA app1 (.slice none 0 0) (.slice (some ⟨V.heap.size, 0, none⟩) 1 1))) (results_cell_row (P := Tryd.prog) (fn := Tryd.f24) rfl _ U2 w.heap.size _ _ _ _ rfl B2 Tryd.underlying32 rfl (by kernel_rfl)) rfl ?_
  refine ⟨_, rfl, ⟨_, _, rfl, GsV.nil _, some ⟨V.heap.size, 0, none⟩, 1, rfl, Nat.le_refl _, ?_⟩, Exc.ext (hE.trans (hE1.trans hE2)) hX (Nat.le_refl _)⟩
  have F2 := hX.blk E2 (.inr (by omega))
  have F1 := hX.blk (E1.ext hE2) (.inr (by omega))
  exact blk_one F2 rfl (Nat.le_refl _) (blk_u8 (l := [7]) F1 rfl)
theorem put_fol (w : World) (hO : OfAt w) : Calls Tryd.prog 11 #[.agg #[.int .i64 8, .string ⟨#[]⟩, .int .i64 0, .slice none 0 0, .int .u8 0, .int .u8 0, .int .u8 0, .int .u8 0, .int .u8 0, .int .u8 0, .int .u8 0, .int .u8 0, .int .u8 0, .int .u8 0, .int .u8 0, .int .u8 0, .int .u8 0, .int .u8 0, .int .u8 0, .int .u8 0, .int .u8 0, .int .u8 0, .int .u8 0, .int .u8 0, .int .u8 0, .int .u8 0, .int .u8 0, .int .u8 0, .int .u8 0, .int .u8 0, .int .u8 0, .int .u8 0, .int .u8 0, .int .u8 0, .int .u8 0, .int .u8 0, .string ⟨#[]⟩, .string ⟨#[]⟩, .int .i64 0, .slice none 0 0, .int .i64 1, .int .i64 0, .int .i64 0, .string ⟨#[]⟩, .bool false, .int .i64 0, .int .i64 0]] w fun e w' => ∃ A c, e = .returned (.tuple #[.slice A 152 c, .int .i64 0]) ∧ 152 ≤ c ∧ Ext w w' := by
  refine (cputq_any w fol1 (cmdA fol1 (.slice none 0 0) (.slice none 0 0)) hO ⟨_, _, rfl, GsV.nil _, BsV.nil _⟩ fol1_fit.fitL).mono ?_
  rintro e w' ⟨A', n, c, rfl, h1, h2, h3, h4, h5⟩
  unfold putB at h1
  rw [if_pos fol1_ok, fol1_len] at h1
  subst h1
  exact ⟨A', c, by rw [fol1_ok], h2, h5⟩
theorem put_zans (w : World) : Calls Tryd.prog 25 #[.agg #[.int .i64 0, .int .i64 0, .slice none 0 0, .string ⟨#[]⟩, .int .i64 0, .slice none 0 0, .int .u8 0, .int .u8 0, .int .u8 0, .int .u8 0, .int .u8 0, .int .u8 0, .int .u8 0, .int .u8 0, .int .u8 0, .int .u8 0, .int .u8 0, .int .u8 0, .int .u8 0, .int .u8 0, .int .u8 0, .int .u8 0, .int .u8 0, .int .u8 0, .int .u8 0, .int .u8 0, .int .u8 0, .int .u8 0, .int .u8 0, .int .u8 0, .int .u8 0, .int .u8 0, .int .u8 0, .int .u8 0, .int .u8 0, .int .u8 0, .int .u8 0, .int .u8 0, .slice none 0 0]] w fun e w' => ∃ A c, e = .returned (.tuple #[.slice A 88 c, .int .i64 0]) ∧ 88 ≤ c ∧ Ext w w' := by
  refine (aputq_any w zAns (ansA zAns (.slice none 0 0) (.slice none 0 0) (.slice none 0 0)) ⟨_, _, _, rfl, HsV.nil _, GsV.nil _, EsV.nil _⟩ zAns_fit.fitL).mono ?_
  rintro e w' ⟨A', n, c, rfl, h1, h2, h3, h4, h5⟩
  unfold putAB at h1
  rw [if_pos zAns_ok, zAns_len] at h1
  subst h1
  exact ⟨A', c, by rw [zAns_ok], h2, h5⟩
theorem check9 (w : World) (hO : OfAt w) : Calls Tryd.prog 7 #[.agg #[.int .i64 9, .string ⟨#[]⟩, .int .i64 0, .slice none 0 0, .int .u8 0, .int .u8 0, .int .u8 0, .int .u8 0, .int .u8 0, .int .u8 0, .int .u8 0, .int .u8 0, .int .u8 0, .int .u8 0, .int .u8 0, .int .u8 0, .int .u8 0, .int .u8 0, .int .u8 0, .int .u8 0, .int .u8 0, .int .u8 0, .int .u8 0, .int .u8 0, .int .u8 0, .int .u8 0, .int .u8 0, .int .u8 0, .int .u8 0, .int .u8 0, .int .u8 0, .int .u8 0, .int .u8 0, .int .u8 0, .int .u8 0, .int .u8 0, .string ⟨#[]⟩, .string ⟨#[]⟩, .int .i64 0, .slice none 0 0, .int .i64 0, .int .i64 0, .int .i64 0, .string ⟨#[]⟩, .bool false, .int .i64 0, .int .i64 0]] w fun e w' => e = .returned (.int .i64 2) ∧ Ext w w' := by
  have h := ccheckq_any w cmd9 (cmdA cmd9 (.slice none 0 0) (.slice none 0 0)) hO ⟨_, _, rfl, GsV.nil _, BsV.nil _⟩ ⟨by decide, (fun g hg => by simp [cmd9, zTok] at hg), by decide, (fun x hx => by simp [cmd9] at hx), by decide, by decide, by decide⟩
  rw [cmd9_no] at h
  exact h
theorem put_app (w : World) (C : Array Value) (hO : OfAt w) (h : CmdAt w app1 C) : Calls Tryd.prog 11 #[.agg C] w fun e w' => ∃ A n c, e = .returned (.tuple #[.slice A n c, .int .i64 0]) ∧ n ≤ 32768 ∧ n ≤ c ∧ Rd.u8.Sl w' A n (cmdB app1) ∧ Ext w w' := by
  refine (cputq_any w app1 C hO h app1_fit.fitL).mono ?_
  rintro e w' ⟨A', n, c, rfl, h1, h2, h3, h4, h5⟩
  unfold putB at h1 h4
  rw [if_pos app1_ok] at h1 h4
  exact ⟨A', n, c, by rw [app1_ok], by rw [← h1]; exact cmd_len app1_fit, h2, h4.mono only_cle, h5⟩
theorem get_app (w : World) (hO : OfAt w) (A : Option Addr) (n c : Nat) (hn : n ≤ 32768) (hc : n ≤ c) (hS : Rd.u8.Sl w A n (cmdB app1)) : Calls Tryd.prog 12 #[.slice A n c] w fun e w' => ∃ C, e = .returned (.tuple #[.agg C, .int .i64 0]) ∧ CmdAt w' app1 C ∧ Ext w w' := by
  refine (cgetq_any w A n c _ hO hS hc (by omega) app1 0 (c_back app1 app1_ok app1_ints)).mono ?_
  rintro e w' ⟨C, rfl, h1, h2⟩
  exact ⟨C, rfl, h1.at_ (Nat.le_refl _), h2⟩
set_option maxHeartbeats 9000000 in
set_option maxRecDepth 100000 in
theorem works_any (w : World) (hO : OfAt w) : Calls Tryd.prog 8 #[] w fun e w' => e = .returned (.bool true) ∧ Ext w w' := by
  have hpf := fun (w' : World) (e : Ext w w') => put_fol w' (hO.ext e)
  have hpa := fun (w' : World) (e : Ext w w') => put_app w'
  have h9 := fun (w' : World) (e : Ext w w') => check9 w' (hO.ext e)
  go_enter Tryd.func8, Tryd.ntmps8
  go_upto_region 2 with (first | (go_at_call 24; (with_reducible refine (app_any _).mono ?_); rintro e w1 ⟨C1, rfl, hC1, hE1⟩) | (go_at_call 11; (with_reducible refine (put_app _ _ (hO.ext hE1) hC1).mono ?_); rintro e w2 ⟨A2, n2, c2, rfl, hn2, hc2, hS2, hE2⟩; have hE12 := hE1.trans hE2; have hgg := get_app _ (hO.ext hE12) _ _ _ hn2 hc2 hS2))
  clear hC1 hS2 hE1 hE2 hn2
  refine wp_region_lit ?_
  iterate 1 (first | (refine pl_off (a' := ?_) rfl (by rfl) ?_ ?_; rotate_left 1; (· simp only [Act.put, zzA, zz0, zzS]; rfl)) | (refine pl_y (v := ?_) (a' := ?_) rfl (by rfl) ?_ ?_ ?_; rotate_left 2; (· go_simp; with_reducible rfl); (· simp only [Act.put, zzA, zz0, zzS]; rfl)))
  refine pl_call (args := ?_) Tryd.func12 (by kernel_rfl) rfl (by rfl) rfl rfl ?_ ?_
  rotate_left 1
  · go_simp; with_reducible rfl
  (with_reducible refine (hgg).mono ?_)
  rintro e w3 ⟨C3, rfl, hC3, hE3⟩
  refine ⟨_, _, rfl, (by simp only [Act.put, zzA, zz0, zzS]; rfl), ?_⟩
  iterate 3 (first | (refine pl_off (a' := ?_) rfl (by rfl) ?_ ?_; rotate_left 1; (· simp only [Act.put, zzA, zz0, zzS]; rfl)) | (refine pl_y (v := ?_) (a' := ?_) rfl (by rfl) ?_ ?_ ?_; rotate_left 2; (· go_simp; with_reducible rfl); (· simp only [Act.put, zzA, zz0, zzS]; rfl)))
  obtain ⟨V, hV, hEV, -⟩ := box1 w3 #[.int .i64 0, .string ⟨#[]⟩, .int .i64 0, .slice none 0 0, .int .u8 0, .int .u8 0, .int .u8 0, .int .u8 0, .int .u8 0, .int .u8 0, .int .u8 0, .int .u8 0, .int .u8 0, .int .u8 0, .int .u8 0, .int .u8 0, .int .u8 0, .int .u8 0, .int .u8 0, .int .u8 0, .int .u8 0, .int .u8 0, .int .u8 0, .int .u8 0, .int .u8 0, .int .u8 0, .int .u8 0, .int .u8 0, .int .u8 0, .int .u8 0, .int .u8 0, .int .u8 0, .int .u8 0, .int .u8 0, .int .u8 0, .int .u8 0, .string ⟨#[]⟩, .string ⟨#[]⟩, .int .i64 0, .slice none 0 0, .int .i64 0, .int .i64 0, .int .i64 0, .string ⟨#[]⟩, .bool false, .int .i64 0, .int .i64 0] 32
  have BV : Blk V w3.heap.size 32 #[.int .i64 0, .string ⟨#[]⟩, .int .i64 0, .slice none 0 0, .int .u8 0, .int .u8 0, .int .u8 0, .int .u8 0, .int .u8 0, .int .u8 0, .int .u8 0, .int .u8 0, .int .u8 0, .int .u8 0, .int .u8 0, .int .u8 0, .int .u8 0, .int .u8 0, .int .u8 0, .int .u8 0, .int .u8 0, .int .u8 0, .int .u8 0, .int .u8 0, .int .u8 0, .int .u8 0, .int .u8 0, .int .u8 0, .int .u8 0, .int .u8 0, .int .u8 0, .int .u8 0, .int .u8 0, .int .u8 0, .int .u8 0, .int .u8 0, .string ⟨#[]⟩, .string ⟨#[]⟩, .int .i64 0, .slice none 0 0, .int .i64 0, .int .i64 0, .int .i64 0, .string ⟨#[]⟩, .bool false, .int .i64 0, .int .i64 0] := by rw [hV]; exact Blk.new _ _ _
  obtain ⟨hC1, hC2⟩ := hC3.row
  obtain ⟨V2, hr, B2, hXV⟩ := store_part BV 0 C3 [] [.int .i64 0, .string ⟨#[]⟩, .int .i64 0, .slice none 0 0, .int .u8 0, .int .u8 0, .int .u8 0, .int .u8 0, .int .u8 0, .int .u8 0, .int .u8 0, .int .u8 0, .int .u8 0, .int .u8 0, .int .u8 0, .int .u8 0, .int .u8 0, .int .u8 0, .int .u8 0, .int .u8 0, .int .u8 0, .int .u8 0, .int .u8 0, .int .u8 0, .int .u8 0, .int .u8 0, .int .u8 0, .int .u8 0, .int .u8 0, .int .u8 0, .int .u8 0, .int .u8 0, .int .u8 0, .int .u8 0, .int .u8 0, .int .u8 0, .string ⟨#[]⟩, .string ⟨#[]⟩, .int .i64 0, .slice none 0 0, .int .i64 0, .int .i64 0, .int .i64 0, .string ⟨#[]⟩, .bool false, .int .i64 0, .int .i64 0] [] rfl rfl hC1.symm 32 (by rw [hC1]; kernel_rfl) hC2
  have B2 : Blk V2 w3.heap.size 32 C3 := by simpa using B2
  have hEV2 : Ext w3 V2 := Exc.ext hEV hXV (Nat.le_refl _)
  have ld := fun (w' : World) (e : Ext V2 w') => load_whole (B2.ext e) 32 _ Tryd.underlying32 rfl (by rw [hC1]; kernel_rfl)
  have hCV := hC3.ext hEV2
  have hE := (hE12.trans hE3).trans hEV2
  clear hC1 hC2 hC3 hXV BV B2 hgg
  refine pl_v (v := ?_) (w1 := ?_) (a' := ?_) rfl (by rfl) ?_ ?_ ?_
  rotate_left 3
  · go_simp; refine ⟨?_, ?_⟩ <;> with_reducible rfl
  · simp only [Act.put, zzA, zz0, zzS]; rfl
  rw [← hV]
  clear hV hEV hEV2 hE3 hE12
  refine pl_store (by rfl) rfl (run_op_store rfl ?_ ?_ hr) ?_
  · rfl
  · rfl
  clear hr
  iterate 1 (first | (refine pl_off (a' := ?_) rfl (by rfl) ?_ ?_; rotate_left 1; (· simp only [Act.put, zzA, zz0, zzS]; rfl)) | (refine pl_y (v := ?_) (a' := ?_) rfl (by rfl) ?_ ?_ ?_; rotate_left 2; (· go_simp; with_reducible rfl); (· simp only [Act.put, zzA, zz0, zzS]; rfl)))
  refine wpList_nil ?_
  go_upto_region 3 with fail
  refine wp_region_lit ?_
  iterate 1 (first | (refine pl_off (a' := ?_) rfl (by rfl) ?_ ?_; rotate_left 1; (· simp only [Act.put, zzA, zz0, zzS]; rfl)) | (refine pl_y (v := ?_) (a' := ?_) rfl (by rfl) ?_ ?_ ?_; rotate_left 2; (· go_simp; with_reducible rfl); (· simp only [Act.put, zzA, zz0, zzS]; rfl)))
  refine pl_call (args := ?_) Tryd.func11 (by kernel_rfl) rfl (by rfl) rfl rfl ?_ ?_
  rotate_left 1
  · go_simp; with_reducible rfl
  (with_reducible refine (hpf _ hE).mono ?_)
  rintro e w4 ⟨A4, c4, rfl, hc4, hE4⟩
  refine ⟨_, _, rfl, (by simp only [Act.put, zzA, zz0, zzS]; rfl), ?_⟩
  iterate 5 (first | (refine pl_off (a' := ?_) rfl (by rfl) ?_ ?_; rotate_left 1; (· simp only [Act.put, zzA, zz0, zzS]; rfl)) | (refine pl_y (v := ?_) (a' := ?_) rfl (by rfl) ?_ ?_ ?_; rotate_left 2; (· go_simp; with_reducible rfl); (· simp only [Act.put, zzA, zz0, zzS]; rfl)))
  refine wpList_nil ?_
  go_upto_region 4 with fail
  refine wp_region_lit ?_
  iterate 1 (first | (refine pl_off (a' := ?_) rfl (by rfl) ?_ ?_; rotate_left 1; (· simp only [Act.put, zzA, zz0, zzS]; rfl)) | (refine pl_y (v := ?_) (a' := ?_) rfl (by rfl) ?_ ?_ ?_; rotate_left 2; (· go_simp; with_reducible rfl); (· simp only [Act.put, zzA, zz0, zzS]; rfl)))
  refine pl_call (args := ?_) Tryd.func25 (by kernel_rfl) rfl (by rfl) rfl rfl ?_ ?_
  rotate_left 1
  · go_simp; with_reducible rfl
  (with_reducible refine (put_zans _).mono ?_)
  rintro e w5 ⟨A5, c5, rfl, hc5, hE5⟩
  refine ⟨_, _, rfl, (by simp only [Act.put, zzA, zz0, zzS]; rfl), ?_⟩
  iterate 5 (first | (refine pl_off (a' := ?_) rfl (by rfl) ?_ ?_; rotate_left 1; (· simp only [Act.put, zzA, zz0, zzS]; rfl)) | (refine pl_y (v := ?_) (a' := ?_) rfl (by rfl) ?_ ?_ ?_; rotate_left 2; (· go_simp; with_reducible rfl); (· simp only [Act.put, zzA, zz0, zzS]; rfl)))
  refine wpList_nil ?_
  go_upto_region 5 with fail
  have hE5' := hE4.trans hE5
  clear hE4 hE5
  refine wp_region_noPanic ?_
  refine tr_start (.y 0 (.y 1 (.y 2 (.y 3 (.y 4 (.y 5 (.y 6 (.y 7 (.e 8 (.e 9 (.y 10 (.y 11 (.y 12 (.y 13 (.y 14 (.y 15 (.y 16 (.y 17 (.y 18 (.y 19 (.y 20 (.y 21 (.y 22 (.y 23 (.y 24 (.y 25 (.y 26 (.y 27 (.y 28 (.y 29 (.y 30 (.e 31 (.y 32 (.y 33 (.y 34 .nil))))))))))))))))))))))))))))))))))) (fun w' => Ext V2 w') (by kernel_rfl) (by as_aux_lemma => kernel_rfl) (fun _ _ _ _ _ h => h) (by (repeat (first | assumption | exact Ext.refl _ | refine Ext.drew ?_ | refine Ext.alloc ?_ _ | refine Ext.drewN ?_ _ | refine Ext.trans ?_ (by assumption)))) ?_
  have e0 : Ext w5 w5.drew := (Ext.refl _).drew
  generalize w5.drew = q0 at e0 ⊢
  have hY0 := hE5'.trans e0
  (first | (refine tr_off (a' := ?_) rfl rfl (by rfl) ?_ ?_; rotate_left 1; (· simp only [Act.put, zzA, zz0, zzS]; rfl)) | (refine tr_y (v := ?_) (a' := ?_) rfl rfl (by rfl) (fun w' hw' => ?_) ?_ ?_; rotate_left 2; (· go_simp; with_reducible rfl); (· simp only [Act.put, zzA, zz0, zzS]; rfl)))
  (first | (refine tr_off (a' := ?_) rfl rfl (by rfl) ?_ ?_; rotate_left 1; (· simp only [Act.put, zzA, zz0, zzS]; rfl)) | (refine tr_y (v := ?_) (a' := ?_) rfl rfl (by rfl) (fun w' hw' => ?_) ?_ ?_; rotate_left 2; (· go_simp; with_reducible rfl); (· simp only [Act.put, zzA, zz0, zzS]; rfl)))
  (first | (refine tr_off (a' := ?_) rfl rfl (by rfl) ?_ ?_; rotate_left 1; (· simp only [Act.put, zzA, zz0, zzS]; rfl)) | (refine tr_y (v := ?_) (a' := ?_) rfl rfl (by rfl) (fun w' hw' => ?_) ?_ ?_; rotate_left 2; (· go_simp; with_reducible rfl); (· simp only [Act.put, zzA, zz0, zzS]; rfl)))
  (first | (refine tr_off (a' := ?_) rfl rfl (by rfl) ?_ ?_; rotate_left 1; (· simp only [Act.put, zzA, zz0, zzS]; rfl)) | (refine tr_y (v := ?_) (a' := ?_) rfl rfl (by rfl) (fun w' hw' => ?_) ?_ ?_; rotate_left 2; (· go_simp; with_reducible rfl); (· simp only [Act.put, zzA, zz0, zzS]; rfl)))
  (first | (refine tr_off (a' := ?_) rfl rfl (by rfl) ?_ ?_; rotate_left 1; (· simp only [Act.put, zzA, zz0, zzS]; rfl)) | (refine tr_y (v := ?_) (a' := ?_) rfl rfl (by rfl) (fun w' hw' => ?_) ?_ ?_; rotate_left 2; (· go_simp; with_reducible rfl); (· simp only [Act.put, zzA, zz0, zzS]; rfl)))
  (first | (refine tr_off (a' := ?_) rfl rfl (by rfl) ?_ ?_; rotate_left 1; (· simp only [Act.put, zzA, zz0, zzS]; rfl)) | (refine tr_y (v := ?_) (a' := ?_) rfl rfl (by rfl) (fun w' hw' => ?_) ?_ ?_; rotate_left 2; (· go_simp; with_reducible rfl); (· simp only [Act.put, zzA, zz0, zzS]; rfl)))
  (first | (refine tr_off (a' := ?_) rfl rfl (by rfl) ?_ ?_; rotate_left 1; (· simp only [Act.put, zzA, zz0, zzS]; rfl)) | (refine tr_y (v := ?_) (a' := ?_) rfl rfl (by rfl) (fun w' hw' => ?_) ?_ ?_; rotate_left 2; (· go_simp; with_reducible rfl); (· simp only [Act.put, zzA, zz0, zzS]; rfl)))
  refine tr_y (v := ?_) (a' := ?_) rfl rfl (by rfl) (fun w' hw' => ?_) ?_ ?_
  rotate_left 2
  · (refine (run_op_load rfl ?_ (ld w' hw')).trans ?_; (· rfl); (· with_reducible rfl))
  · simp only [Act.put, zzA, zz0, zzS]; rfl
  refine tr_call (args := ?_) rfl Tryd.func24 (by kernel_rfl) rfl (by rfl) rfl rfl ?_ ?_
  rotate_left 1
  · go_simp; rfl
  (with_reducible refine (app_any _).mono ?_)
  rintro e q1 ⟨C6, rfl, hC6, e1⟩
  have hY1 := hY0.trans e1
  refine ⟨_, _, rfl, hY1, (by simp only [Act.put, zzA, zz0, zzS]; rfl), ?_⟩
  refine tr_call (args := ?_) rfl Tryd.func26 (by kernel_rfl) rfl (by rfl) rfl rfl ?_ ?_
  rotate_left 1
  · go_simp; rfl
  (with_reducible refine (samecq_any _ app1 _ _ (hCV.ext hY1) hC6 app1_fit.fitL.len).mono ?_)
  rintro e q2 ⟨rfl, e2⟩
  have hY2 := hY1.trans e2
  refine ⟨_, _, rfl, hY2, (by simp only [Act.put, zzA, zz0, zzS]; rfl), ?_⟩
  (first | (refine tr_off (a' := ?_) rfl rfl (by rfl) ?_ ?_; rotate_left 1; (· simp only [Act.put, zzA, zz0, zzS]; rfl)) | (refine tr_y (v := ?_) (a' := ?_) rfl rfl (by rfl) (fun w' hw' => ?_) ?_ ?_; rotate_left 2; (· go_simp; with_reducible rfl); (· simp only [Act.put, zzA, zz0, zzS]; rfl)))
  (first | (refine tr_off (a' := ?_) rfl rfl (by rfl) ?_ ?_; rotate_left 1; (· simp only [Act.put, zzA, zz0, zzS]; rfl)) | (refine tr_y (v := ?_) (a' := ?_) rfl rfl (by rfl) (fun w' hw' => ?_) ?_ ?_; rotate_left 2; (· go_simp; with_reducible rfl); (· simp only [Act.put, zzA, zz0, zzS]; rfl)))
  (first | (refine tr_off (a' := ?_) rfl rfl (by rfl) ?_ ?_; rotate_left 1; (· simp only [Act.put, zzA, zz0, zzS]; rfl)) | (refine tr_y (v := ?_) (a' := ?_) rfl rfl (by rfl) (fun w' hw' => ?_) ?_ ?_; rotate_left 2; (· go_simp; with_reducible rfl); (· simp only [Act.put, zzA, zz0, zzS]; rfl)))
  (first | (refine tr_off (a' := ?_) rfl rfl (by rfl) ?_ ?_; rotate_left 1; (· simp only [Act.put, zzA, zz0, zzS]; rfl)) | (refine tr_y (v := ?_) (a' := ?_) rfl rfl (by rfl) (fun w' hw' => ?_) ?_ ?_; rotate_left 2; (· go_simp; with_reducible rfl); (· simp only [Act.put, zzA, zz0, zzS]; rfl)))
  (first | (refine tr_off (a' := ?_) rfl rfl (by rfl) ?_ ?_; rotate_left 1; (· simp only [Act.put, zzA, zz0, zzS]; rfl)) | (refine tr_y (v := ?_) (a' := ?_) rfl rfl (by rfl) (fun w' hw' => ?_) ?_ ?_; rotate_left 2; (· go_simp; with_reducible rfl); (· simp only [Act.put, zzA, zz0, zzS]; rfl)))
  (first | (refine tr_off (a' := ?_) rfl rfl (by rfl) ?_ ?_; rotate_left 1; (· simp only [Act.put, zzA, zz0, zzS]; rfl)) | (refine tr_y (v := ?_) (a' := ?_) rfl rfl (by rfl) (fun w' hw' => ?_) ?_ ?_; rotate_left 2; (· go_simp; with_reducible rfl); (· simp only [Act.put, zzA, zz0, zzS]; rfl)))
  (first | (refine tr_off (a' := ?_) rfl rfl (by rfl) ?_ ?_; rotate_left 1; (· simp only [Act.put, zzA, zz0, zzS]; rfl)) | (refine tr_y (v := ?_) (a' := ?_) rfl rfl (by rfl) (fun w' hw' => ?_) ?_ ?_; rotate_left 2; (· go_simp; with_reducible rfl); (· simp only [Act.put, zzA, zz0, zzS]; rfl)))
  (first | (refine tr_off (a' := ?_) rfl rfl (by rfl) ?_ ?_; rotate_left 1; (· simp only [Act.put, zzA, zz0, zzS]; rfl)) | (refine tr_y (v := ?_) (a' := ?_) rfl rfl (by rfl) (fun w' hw' => ?_) ?_ ?_; rotate_left 2; (· go_simp; with_reducible rfl); (· simp only [Act.put, zzA, zz0, zzS]; rfl)))
  (first | (refine tr_off (a' := ?_) rfl rfl (by rfl) ?_ ?_; rotate_left 1; (· simp only [Act.put, zzA, zz0, zzS]; rfl)) | (refine tr_y (v := ?_) (a' := ?_) rfl rfl (by rfl) (fun w' hw' => ?_) ?_ ?_; rotate_left 2; (· go_simp; with_reducible rfl); (· simp only [Act.put, zzA, zz0, zzS]; rfl)))
  (first | (refine tr_off (a' := ?_) rfl rfl (by rfl) ?_ ?_; rotate_left 1; (· simp only [Act.put, zzA, zz0, zzS]; rfl)) | (refine tr_y (v := ?_) (a' := ?_) rfl rfl (by rfl) (fun w' hw' => ?_) ?_ ?_; rotate_left 2; (· go_simp; with_reducible rfl); (· simp only [Act.put, zzA, zz0, zzS]; rfl)))
  (first | (refine tr_off (a' := ?_) rfl rfl (by rfl) ?_ ?_; rotate_left 1; (· simp only [Act.put, zzA, zz0, zzS]; rfl)) | (refine tr_y (v := ?_) (a' := ?_) rfl rfl (by rfl) (fun w' hw' => ?_) ?_ ?_; rotate_left 2; (· go_simp; with_reducible rfl); (· simp only [Act.put, zzA, zz0, zzS]; rfl)))
  (first | (refine tr_off (a' := ?_) rfl rfl (by rfl) ?_ ?_; rotate_left 1; (· simp only [Act.put, zzA, zz0, zzS]; rfl)) | (refine tr_y (v := ?_) (a' := ?_) rfl rfl (by rfl) (fun w' hw' => ?_) ?_ ?_; rotate_left 2; (· go_simp; with_reducible rfl); (· simp only [Act.put, zzA, zz0, zzS]; rfl)))
  (first | (refine tr_off (a' := ?_) rfl rfl (by rfl) ?_ ?_; rotate_left 1; (· simp only [Act.put, zzA, zz0, zzS]; rfl)) | (refine tr_y (v := ?_) (a' := ?_) rfl rfl (by rfl) (fun w' hw' => ?_) ?_ ?_; rotate_left 2; (· go_simp; with_reducible rfl); (· simp only [Act.put, zzA, zz0, zzS]; rfl)))
  (first | (refine tr_off (a' := ?_) rfl rfl (by rfl) ?_ ?_; rotate_left 1; (· simp only [Act.put, zzA, zz0, zzS]; rfl)) | (refine tr_y (v := ?_) (a' := ?_) rfl rfl (by rfl) (fun w' hw' => ?_) ?_ ?_; rotate_left 2; (· go_simp; with_reducible rfl); (· simp only [Act.put, zzA, zz0, zzS]; rfl)))
  (first | (refine tr_off (a' := ?_) rfl rfl (by rfl) ?_ ?_; rotate_left 1; (· simp only [Act.put, zzA, zz0, zzS]; rfl)) | (refine tr_y (v := ?_) (a' := ?_) rfl rfl (by rfl) (fun w' hw' => ?_) ?_ ?_; rotate_left 2; (· go_simp; with_reducible rfl); (· simp only [Act.put, zzA, zz0, zzS]; rfl)))
  (first | (refine tr_off (a' := ?_) rfl rfl (by rfl) ?_ ?_; rotate_left 1; (· simp only [Act.put, zzA, zz0, zzS]; rfl)) | (refine tr_y (v := ?_) (a' := ?_) rfl rfl (by rfl) (fun w' hw' => ?_) ?_ ?_; rotate_left 2; (· go_simp; with_reducible rfl); (· simp only [Act.put, zzA, zz0, zzS]; rfl)))
  (first | (refine tr_off (a' := ?_) rfl rfl (by rfl) ?_ ?_; rotate_left 1; (· simp only [Act.put, zzA, zz0, zzS]; rfl)) | (refine tr_y (v := ?_) (a' := ?_) rfl rfl (by rfl) (fun w' hw' => ?_) ?_ ?_; rotate_left 2; (· go_simp; with_reducible rfl); (· simp only [Act.put, zzA, zz0, zzS]; rfl)))
  (first | (refine tr_off (a' := ?_) rfl rfl (by rfl) ?_ ?_; rotate_left 1; (· simp only [Act.put, zzA, zz0, zzS]; rfl)) | (refine tr_y (v := ?_) (a' := ?_) rfl rfl (by rfl) (fun w' hw' => ?_) ?_ ?_; rotate_left 2; (· go_simp; with_reducible rfl); (· simp only [Act.put, zzA, zz0, zzS]; rfl)))
  (first | (refine tr_off (a' := ?_) rfl rfl (by rfl) ?_ ?_; rotate_left 1; (· simp only [Act.put, zzA, zz0, zzS]; rfl)) | (refine tr_y (v := ?_) (a' := ?_) rfl rfl (by rfl) (fun w' hw' => ?_) ?_ ?_; rotate_left 2; (· go_simp; with_reducible rfl); (· simp only [Act.put, zzA, zz0, zzS]; rfl)))
  (first | (refine tr_off (a' := ?_) rfl rfl (by rfl) ?_ ?_; rotate_left 1; (· simp only [Act.put, zzA, zz0, zzS]; rfl)) | (refine tr_y (v := ?_) (a' := ?_) rfl rfl (by rfl) (fun w' hw' => ?_) ?_ ?_; rotate_left 2; (· go_simp; with_reducible rfl); (· simp only [Act.put, zzA, zz0, zzS]; rfl)))
  (first | (refine tr_off (a' := ?_) rfl rfl (by rfl) ?_ ?_; rotate_left 1; (· simp only [Act.put, zzA, zz0, zzS]; rfl)) | (refine tr_y (v := ?_) (a' := ?_) rfl rfl (by rfl) (fun w' hw' => ?_) ?_ ?_; rotate_left 2; (· go_simp; with_reducible rfl); (· simp only [Act.put, zzA, zz0, zzS]; rfl)))
  refine tr_call (args := ?_) rfl Tryd.func7 (by kernel_rfl) rfl (by rfl) rfl rfl ?_ ?_
  rotate_left 1
  · go_simp; rfl
  (with_reducible refine (h9 _ (hE.trans hY2)).mono ?_)
  rintro e q3 ⟨rfl, e3⟩
  have hY3 := hY2.trans e3
  refine ⟨_, _, rfl, hY3, (by simp only [Act.put, zzA, zz0, zzS]; rfl), ?_⟩
  (first | (refine tr_off (a' := ?_) rfl rfl (by rfl) ?_ ?_; rotate_left 1; (· simp only [Act.put, zzA, zz0, zzS]; rfl)) | (refine tr_y (v := ?_) (a' := ?_) rfl rfl (by rfl) (fun w' hw' => ?_) ?_ ?_; rotate_left 2; (· go_simp; with_reducible rfl); (· simp only [Act.put, zzA, zz0, zzS]; rfl)))
  (first | (refine tr_off (a' := ?_) rfl rfl (by rfl) ?_ ?_; rotate_left 1; (· simp only [Act.put, zzA, zz0, zzS]; rfl)) | (refine tr_y (v := ?_) (a' := ?_) rfl rfl (by rfl) (fun w' hw' => ?_) ?_ ?_; rotate_left 2; (· go_simp; with_reducible rfl); (· simp only [Act.put, zzA, zz0, zzS]; rfl)))
  (first | (refine tr_off (a' := ?_) rfl rfl (by rfl) ?_ ?_; rotate_left 1; (· simp only [Act.put, zzA, zz0, zzS]; rfl)) | (refine tr_y (v := ?_) (a' := ?_) rfl rfl (by rfl) (fun w' hw' => ?_) ?_ ?_; rotate_left 2; (· go_simp; with_reducible rfl); (· simp only [Act.put, zzA, zz0, zzS]; rfl)))
  refine tr_end ?_
  refine NoPanic.normal ?_
  go_wp2_with fail
  go_ret
  exact ⟨rfl, hE.trans hY3⟩
end Go.Proofs.YtgfhbachgniipaaDoor

namespace Go.Proofs.YtgfhbachgniipaaDoor
open Go.RowKit
theorem only_sl {α : Type} {d : Rd α} {w1 w2 : World} {lo hi : Nat} {A : Option Addr} {n : Nat} {l : List α} (h : d.Sl (only w1 lo hi) A n l) (hE : Ext w1 w2) (hh : hi ≤ w1.heap.size) : d.Sl (only w2 lo hi) A n l := by
  rw [only_ext hE hh]; exact h
theorem only_slx {α : Type} {d : Rd α} {w1 w2 : World} {l h lo hi : Nat} {A : Option Addr} {n : Nat} {xs : List α} (hs : d.Sl (only w1 l h) A n xs) (hX : Exc lo hi w1 w2) (hh : h ≤ w1.heap.size) (hd : h ≤ lo ∨ hi ≤ l) : d.Sl (only w2 l h) A n xs := by
  rw [hX.only hh hd]; exact hs
theorem box_row (w : World) (T : TypeId) (Z C : Array Value) (hs : Z.size = C.size) (hi : (Tryd.prog.info? T).map (·.size) = some C.size) (h1 : C.all (·.oneCell') = true) : ∃ w', (Instr.storeAt T (.pointer (some ⟨w.heap.size, 0, none⟩)) (.agg C)).run Tryd.prog (w.alloc (.cells Z T)) = .ok () w' ∧ Blk w' w.heap.size T C ∧ Ext w w' := by
  obtain ⟨w', hr, hB, hX⟩ := store_part (Blk.new w T Z) 0 C [] Z.toList [] (by simp) rfl (by simpa using hs) T hi h1
  refine ⟨w', hr, by simpa using hB, ?_⟩
  exact Exc.ext (Ext.alloc (Ext.refl _) _) hX (Nat.le_refl _)
theorem set_exc (w : World) (h i : Nat) (v : Value) : Exc h (h + 1) w (w.setCell ⟨h, i, none⟩ v) := Exc.setCell (p := ⟨h, i, none⟩) (Nat.le_refl _) (Nat.lt_succ_self _) v
theorem over_row {w : World} {g : Nat} {T : TypeId} {Z C : Array Value} (B : Blk w g T Z) (hs : Z.size = C.size) (hi : (Tryd.prog.info? T).map (·.size) = some C.size) (h1 : C.all (·.oneCell') = true) : ∃ w', (Instr.storeAt T (.pointer (some ⟨g, 0, none⟩)) (.agg C)).run Tryd.prog w = .ok () w' ∧ Blk w' g T C ∧ Exc g (g + 1) w w' := by
  obtain ⟨w', hr, hB, hX⟩ := store_part B 0 C [] Z.toList [] (by simp) rfl (by simpa using hs) T hi h1
  exact ⟨w', hr, by simpa using hB, hX⟩
end Go.Proofs.YtgfhbachgniipaaDoor

namespace Go.Proofs.YtgfhbachgniipaaDoor
open Go.RowKit
end Go.Proofs.YtgfhbachgniipaaDoor

namespace Go.Proofs.YtgfhbachgniipaaDoor
open Go.RowKit
structure CmdCome (c : Cmd) : Prop where
  n : c.tok.gs.length ≤ 140737488351232
  m : c.bodies.length ≤ 140737488351232
  x : ∀ x ∈ c.bodies, x.length ≤ 140737488351232
  ints : CmdInts c
theorem fitL_of {c : Cmd} (h : CmdSmall c 40 8192 ∧ TokSmall c.tok) (hi : CmdInts c) : CmdFitL c := by
  obtain ⟨h, k⟩ := h
  have h1 := h.all
  refine ⟨⟨by have := k.ten; omega, hi.tid, by have := k.n; omega, fun g hg => ⟨(hi.gs g hg).1, by have := k.p g hg; omega, (hi.gs g hg).2⟩, hi.mac⟩, hi.kind, hi.ex, hi.fr, hi.ct, hi.id, hi.gr, hi.gu, by have := h.st; omega, by have := h.su; omega, by have := h.p; omega, by have := h.m; omega, fun x hx => ?_⟩
  have := allN_mem c.bodies 0 (by omega) (by omega) x hx
  omega
theorem blobs_len {l : List (List UInt8)} (h : ∀ x ∈ l, x.length ≤ 1048576) : (l.flatMap blobB).length ≤ l.length * 1048584 := flat_len blobB 1048584 l fun x hx => by
  have := h x hx
  unfold blobB
  simp only [List.length_append, num8_len]
  omega
theorem gsl_len {l : List Grant} (h : ∀ g ∈ l, GrFit g) : (l.flatMap gB).length ≤ l.length * 1048608 := flat_len gB 1048608 l fun g hg => gB_len g (h g hg)
theorem cmdB_len {c : Cmd} (h : CmdFitL c) : (cmdB c).length ≤ 4294967296 := by
  have h1 := gsl_len h.tok.g
  have h2 := blobs_len h.x
  have h3 := h.m
  have h4 := h.st
  have h5 := h.su
  have h6 := h.gp
  have h7 := h.tok.n
  have h8 := h.tok.ten
  have h9 := h.tok.mac
  have h10 := Nat.mul_le_mul_right 1048608 h7
  have h11 := Nat.mul_le_mul_right 1048584 h3
  unfold cmdB gB tokB
  simp only [List.length_append, num8_len, txtB_len]
  omega
theorem putB_len {c : Cmd} (h : CmdFitL c) : (putB c).length ≤ 4294967296 := by
  unfold putB
  split
  · exact cmdB_len h
  · simp
theorem samebq_any (w : World) (b : List UInt8) (n : Nat) (A : Option Addr) (c : Nat) (hS : Rd.u8.Sl w A n b) (hc : n ≤ c) (hn : b.length ≤ 4294967296) (A' : Option Addr) (c' : Nat) (hS' : Rd.u8.Sl w A' n b) (hc' : n ≤ c') :
    Calls Tryd.prog 74 #[.slice A n c, .slice A' n c'] w fun e w' => e = .returned (.bool true) ∧ Ext w w' := by
  obtain rfl : n = b.length := hS.1.symm
  have h := sameBytes_any w A c b hS hc (by omega) A' c' b hS' hc'
  simp only [beq_self_eq_true] at h
  exact h
theorem CmdAt.only {w w' : World} {lo hi : Nat} {c : Cmd} {C : Array Value} (h : CmdAt (only w lo hi) c C) (hE : Ext w w') (hh : hi ≤ w.heap.size) : CmdAt (only w' lo hi) c C := by
  rw [only_ext hE hh]; exact h
end Go.Proofs.YtgfhbachgniipaaDoor

namespace Go.Proofs.YtgfhbachgniipaaDoor
open Go.RowKit
def rdTok : Rd Tok := (Rd.pair Rd.str (Rd.pair (Rd.int .i64) (Rd.pair (Rd.slice rdGr) (Rd.arr 32 Rd.u8)))).iso fun x => (x.ten, x.id, x.gs, x.mac)
def rdCmd : Rd Cmd := (Rd.pair (Rd.int .i64) (Rd.pair rdTok (Rd.pair Rd.str (Rd.pair Rd.str (Rd.pair (Rd.int .i64) (Rd.pair (Rd.slice rdB) (Rd.pair (Rd.int .i64) (Rd.pair (Rd.int .i64) (Rd.pair rdGr (Rd.int .i64)))))))))).iso fun x => (x.kind, x.tok, x.st, x.su, x.ex, x.bodies, x.fr, x.ct, x.gr, x.id)
def rdAns : Rd Ans := (Rd.pair (Rd.int .i64) (Rd.pair (Rd.int .i64) (Rd.pair (Rd.slice rdSh) (Rd.pair rdTok (Rd.slice rdEn))))).iso fun x => (x.code, x.num, x.shown, x.tok, x.ents)
theorem opens_bytes : Opens Tryd.prog 37 (Rd.slice Rd.u8) := opens_slice Tryd.underlying37 (by kernel_rfl) (opens_u8 Tryd.underlying5 (by kernel_rfl)) (by decide) (of_decide_eq_true (by kernel_rfl))
theorem opens_nest : Opens Tryd.prog 28 (Rd.slice rdB) := opens_slice Tryd.underlying28 (by kernel_rfl) opens_bytes (by decide) (of_decide_eq_true (by kernel_rfl))
theorem opens_i : Opens Tryd.prog 3 (Rd.int .i64) := opens_int Tryd.underlying3 (by kernel_rfl)
theorem opens_e : Opens Tryd.prog 34 (Rd.int .i64) := opens_int Tryd.underlying34 (by kernel_rfl)
theorem opens_s : Opens Tryd.prog 9 Rd.str := opens_str Tryd.underlying9 (by kernel_rfl)
theorem opens_sum : Opens Tryd.prog 25 (Rd.arr 32 Rd.u8) := opens_arr Tryd.underlying25 (by kernel_rfl) (opens_u8 Tryd.underlying5 (by kernel_rfl))
theorem opens_gr : Opens Tryd.prog 30 rdGr :=
  opens_struct (fun x : Grant => (x.r, x.p, x.x, x.u)) (fun p => ⟨p.1, p.2.1, p.2.2.1, p.2.2.2⟩) (fun _ => rfl) Tryd.underlying30 (by kernel_rfl) (opensFs_cons rfl opens_i (opensFs_cons rfl opens_s (opensFs_cons rfl (opens_bool Tryd.underlying4 (by kernel_rfl)) (opensFs_one rfl opens_i))))
theorem opens_tok : Opens Tryd.prog 27 rdTok :=
  opens_struct (fun x : Tok => (x.ten, x.id, x.gs, x.mac)) (fun p => ⟨p.1, p.2.1, p.2.2.1, p.2.2.2⟩) (fun _ => rfl) Tryd.underlying27 (by kernel_rfl)
    (opensFs_cons rfl opens_s (opensFs_cons rfl opens_i (opensFs_cons rfl (opens_slice Tryd.underlying23 (by kernel_rfl) opens_gr (by decide) (of_decide_eq_true (by kernel_rfl))) (opensFs_one rfl opens_sum))))
theorem opens_cmd : Opens Tryd.prog 32 rdCmd :=
  opens_struct (fun x : Cmd => (x.kind, x.tok, x.st, x.su, x.ex, x.bodies, x.fr, x.ct, x.gr, x.id)) (fun p => ⟨p.1, p.2.1, p.2.2.1, p.2.2.2.1, p.2.2.2.2.1, p.2.2.2.2.2.1, p.2.2.2.2.2.2.1, p.2.2.2.2.2.2.2.1, p.2.2.2.2.2.2.2.2.1, p.2.2.2.2.2.2.2.2.2⟩) (fun _ => rfl) Tryd.underlying32 (by kernel_rfl)
    (opensFs_cons rfl opens_i (opensFs_cons rfl opens_tok (opensFs_cons rfl opens_s (opensFs_cons rfl opens_s (opensFs_cons rfl opens_i (opensFs_cons rfl opens_nest (opensFs_cons rfl opens_i (opensFs_cons rfl opens_i (opensFs_cons rfl opens_gr (opensFs_one rfl opens_i))))))))))
theorem opens_sh : Opens Tryd.prog 68 rdSh :=
  opens_struct (fun x : Shn => (x.st, x.su, x.ver, x.pos, x.code, x.body)) (fun p => ⟨p.1, p.2.1, p.2.2.1, p.2.2.2.1, p.2.2.2.2.1, p.2.2.2.2.2⟩) (fun _ => rfl) Tryd.underlying68 (by kernel_rfl)
    (opensFs_cons rfl opens_s (opensFs_cons rfl opens_s (opensFs_cons rfl opens_i (opensFs_cons rfl opens_i (opensFs_cons rfl opens_e (opensFs_one rfl opens_bytes))))))
theorem opens_en : Opens Tryd.prog 72 rdEn :=
  opens_struct (fun x : Ent => (x.no, x.clock, x.kind, x.code, x.id, x.st, x.su, x.sum)) (fun p => ⟨p.1, p.2.1, p.2.2.1, p.2.2.2.1, p.2.2.2.2.1, p.2.2.2.2.2.1, p.2.2.2.2.2.2.1, p.2.2.2.2.2.2.2⟩) (fun _ => rfl) Tryd.underlying72 (by kernel_rfl)
    (opensFs_cons rfl opens_i (opensFs_cons rfl opens_i (opensFs_cons rfl opens_i (opensFs_cons rfl opens_e (opensFs_cons rfl opens_i (opensFs_cons rfl opens_s (opensFs_cons rfl opens_s (opensFs_one rfl opens_sum))))))))
theorem opens_ans : Opens Tryd.prog 45 rdAns :=
  opens_struct (fun x : Ans => (x.code, x.num, x.shown, x.tok, x.ents)) (fun p => ⟨p.1, p.2.1, p.2.2.1, p.2.2.2.1, p.2.2.2.2⟩) (fun _ => rfl) Tryd.underlying45 (by kernel_rfl)
    (opensFs_cons rfl opens_e (opensFs_cons rfl opens_i (opensFs_cons rfl (opens_slice Tryd.underlying42 (by kernel_rfl) opens_sh (by decide) (of_decide_eq_true (by kernel_rfl))) (opensFs_cons rfl opens_tok (opensFs_one rfl (opens_slice Tryd.underlying43 (by kernel_rfl) opens_en (by decide) (of_decide_eq_true (by kernel_rfl))))))))
theorem tok_cells {w : World} {t : Tok} {cs : List Value} (h : rdTok.K w t cs) : (∃ a, cs = (tokA t a).toList ∧ GsV w t.gs a) ∧ t.mac.length = 32 := by
  obtain ⟨_, _, rfl, rfl, _, _, rfl, rfl, _, _, rfl, ⟨A, c, rfl, hl, hS⟩, h⟩ := h
  obtain ⟨e, hm⟩ := arr_mac h
  exact ⟨⟨_, by rw [e]; rfl, A, c, rfl, hl, hS⟩, hm⟩
theorem cmd_cells {w : World} {c : Cmd} {cs : List Value} (h : rdCmd.K w c cs) : CmdAt w c cs.toArray ∧ c.tok.mac.length = 32 := by
  obtain ⟨_, _, rfl, rfl, _, _, rfl, ht, _, _, rfl, rfl, _, _, rfl, rfl, _, _, rfl, rfl, _, _, rfl, ⟨B, b, rfl, hb, hSB⟩, _, _, rfl, rfl, _, _, rfl, rfl, _, _, rfl, hg, rfl⟩ := h
  obtain ⟨⟨a, rfl, hG⟩, hm⟩ := tok_cells ht
  obtain rfl := gr_cells hg
  exact ⟨⟨a, .slice B c.bodies.length b, rfl, hG, B, b, rfl, hb, hSB⟩, hm⟩
theorem ens_sum {w : World} {A : Option Addr} {n : Nat} {xs : List Ent} (h : rdEn.Sl w A n xs) : ∀ x ∈ xs, x.sum.length = 32 := fun x hx => sl_sum h x hx
theorem ans_cells {w : World} {x : Ans} {cs : List Value} (h : rdAns.K w x cs) : AnsAt w x cs.toArray ∧ x.tok.mac.length = 32 ∧ ∀ e ∈ x.ents, e.sum.length = 32 := by
  obtain ⟨_, _, rfl, rfl, _, _, rfl, rfl, _, _, rfl, ⟨B, b, rfl, hb, hSB⟩, _, _, rfl, ht, ⟨D, d, rfl, hd, hSD⟩⟩ := h
  obtain ⟨⟨a, rfl, hG⟩, hm⟩ := tok_cells ht
  exact ⟨⟨.slice B x.shown.length b, a, .slice D x.ents.length d, rfl, ⟨B, b, rfl, hb, hSB⟩, hG, ⟨D, d, rfl, hd, hSD⟩⟩, hm, ens_sum hSD⟩
theorem cmd_agg {w : World} {c : Cmd} {l : List Value} (h : rdCmd.K w c (Value.agg ⟨l⟩).cells.toList) : CmdAt w c ⟨l⟩ ∧ c.tok.mac.length = 32 := cmd_cells h
theorem ans_agg {w : World} {x : Ans} {l : List Value} (h : rdAns.K w x (Value.agg ⟨l⟩).cells.toList) : AnsAt w x ⟨l⟩ ∧ x.tok.mac.length = 32 ∧ ∀ e ∈ x.ents, e.sum.length = 32 := ans_cells h
theorem tok_agg {w : World} {t : Tok} {l : List Value} (h : rdTok.K w t (Value.agg ⟨l⟩).cells.toList) : (∃ a, l = (tokA t a).toList ∧ GsV w t.gs a) ∧ t.mac.length = 32 := tok_cells h
theorem wf_int (x : Int) : (Lit.int .i64 x).wf = true ↔ intOk x := by
  simp [Lit.wf, IntKind.min, IntKind.max, IntKind.signed, IntKind.bits, intOk]
theorem cmdCome_of {c : Cmd} (h : rdCmd.ok reachBytes c) (hm : c.tok.mac.length = 32) : CmdCome c := by
  obtain ⟨h0, ⟨-, h1, ⟨h2, h3⟩, -⟩, -, -, h4, ⟨h5, h6⟩, h7, h8, ⟨h9, -, -, h10⟩, h11⟩ := h
  exact ⟨h2, h5, fun x hx => (h6 x hx).1, ⟨(wf_int _).1 h0, (wf_int _).1 h4, (wf_int _).1 h7, (wf_int _).1 h8, (wf_int _).1 h11, (wf_int _).1 h9, (wf_int _).1 h10, (wf_int _).1 h1, fun g hg => ⟨(wf_int _).1 (h3 g hg).1, (wf_int _).1 (h3 g hg).2.2.2⟩, hm⟩⟩
theorem ofAt_of {W : World} {n : String} {d : DataW Unit} {rest : List (String × DataW Unit)} (hL : laidMet Tryd.prog ((n, d) :: ("sealery/command.of", Rows.laid_sealery_command_of) :: rest) W) : OfAt W := by
  have h := Lib.tabIs_of_head (P := Tryd.prog) (k := .u64) (zs := [0, 15, 49, 48, 2, 64, 128, 48, 16]) (g := 0) (t := 56) (by kernel_rfl) (by kernel_rfl) Tryd.underlying56 Tryd.underlying55 (by kernel_rfl) (by kernel_rfl) (laidMet.tail hL)
  intro k hk
  have h2 := h.cell (g := 0) (by kernel_rfl) k (by simpa using hk)
  rw [h2]
  have : k = 0 ∨ k = 1 ∨ k = 2 ∨ k = 3 ∨ k = 4 ∨ k = 5 ∨ k = 6 ∨ k = 7 ∨ k = 8 := by omega
  rcases this with rfl | rfl | rfl | rfl | rfl | rfl | rfl | rfl | rfl <;> rfl
def zCMW : Array Value := #[.int .i64 0, .string ⟨#[]⟩, .int .i64 0, .slice none 0 0, .int .u8 0, .int .u8 0, .int .u8 0, .int .u8 0, .int .u8 0, .int .u8 0, .int .u8 0, .int .u8 0, .int .u8 0, .int .u8 0, .int .u8 0, .int .u8 0, .int .u8 0, .int .u8 0, .int .u8 0, .int .u8 0, .int .u8 0, .int .u8 0, .int .u8 0, .int .u8 0, .int .u8 0, .int .u8 0, .int .u8 0, .int .u8 0, .int .u8 0, .int .u8 0, .int .u8 0, .int .u8 0, .int .u8 0, .int .u8 0, .int .u8 0, .int .u8 0, .string ⟨#[]⟩, .string ⟨#[]⟩, .int .i64 0, .slice none 0 0, .int .i64 0, .int .i64 0, .int .i64 0, .string ⟨#[]⟩, .bool false, .int .i64 0, .int .i64 0]
def zCMD {H : Type} : DataW H := .agg [.lit (.int .i64 0), .agg [.lit (.string []), .lit (.int .i64 0), .nil, .agg [.lit (.int .u8 0), .lit (.int .u8 0), .lit (.int .u8 0), .lit (.int .u8 0), .lit (.int .u8 0), .lit (.int .u8 0), .lit (.int .u8 0), .lit (.int .u8 0), .lit (.int .u8 0), .lit (.int .u8 0), .lit (.int .u8 0), .lit (.int .u8 0), .lit (.int .u8 0), .lit (.int .u8 0), .lit (.int .u8 0), .lit (.int .u8 0), .lit (.int .u8 0), .lit (.int .u8 0), .lit (.int .u8 0), .lit (.int .u8 0), .lit (.int .u8 0), .lit (.int .u8 0), .lit (.int .u8 0), .lit (.int .u8 0), .lit (.int .u8 0), .lit (.int .u8 0), .lit (.int .u8 0), .lit (.int .u8 0), .lit (.int .u8 0), .lit (.int .u8 0), .lit (.int .u8 0), .lit (.int .u8 0)]], .lit (.string []), .lit (.string []), .lit (.int .i64 0), .nil, .lit (.int .i64 0), .lit (.int .i64 0), .agg [.lit (.int .i64 0), .lit (.string []), .lit (.bool false), .lit (.int .i64 0)], .lit (.int .i64 0)]
def zANW : Array Value := #[.int .i64 0, .int .i64 0, .slice none 0 0, .string ⟨#[]⟩, .int .i64 0, .slice none 0 0, .int .u8 0, .int .u8 0, .int .u8 0, .int .u8 0, .int .u8 0, .int .u8 0, .int .u8 0, .int .u8 0, .int .u8 0, .int .u8 0, .int .u8 0, .int .u8 0, .int .u8 0, .int .u8 0, .int .u8 0, .int .u8 0, .int .u8 0, .int .u8 0, .int .u8 0, .int .u8 0, .int .u8 0, .int .u8 0, .int .u8 0, .int .u8 0, .int .u8 0, .int .u8 0, .int .u8 0, .int .u8 0, .int .u8 0, .int .u8 0, .int .u8 0, .int .u8 0, .slice none 0 0]
def zAND {H : Type} : DataW H := .agg [.lit (.int .i64 0), .lit (.int .i64 0), .nil, .agg [.lit (.string []), .lit (.int .i64 0), .nil, .agg [.lit (.int .u8 0), .lit (.int .u8 0), .lit (.int .u8 0), .lit (.int .u8 0), .lit (.int .u8 0), .lit (.int .u8 0), .lit (.int .u8 0), .lit (.int .u8 0), .lit (.int .u8 0), .lit (.int .u8 0), .lit (.int .u8 0), .lit (.int .u8 0), .lit (.int .u8 0), .lit (.int .u8 0), .lit (.int .u8 0), .lit (.int .u8 0), .lit (.int .u8 0), .lit (.int .u8 0), .lit (.int .u8 0), .lit (.int .u8 0), .lit (.int .u8 0), .lit (.int .u8 0), .lit (.int .u8 0), .lit (.int .u8 0), .lit (.int .u8 0), .lit (.int .u8 0), .lit (.int .u8 0), .lit (.int .u8 0), .lit (.int .u8 0), .lit (.int .u8 0), .lit (.int .u8 0), .lit (.int .u8 0)]], .nil]
def zTKW : Array Value := #[.string ⟨#[]⟩, .int .i64 0, .slice none 0 0, .int .u8 0, .int .u8 0, .int .u8 0, .int .u8 0, .int .u8 0, .int .u8 0, .int .u8 0, .int .u8 0, .int .u8 0, .int .u8 0, .int .u8 0, .int .u8 0, .int .u8 0, .int .u8 0, .int .u8 0, .int .u8 0, .int .u8 0, .int .u8 0, .int .u8 0, .int .u8 0, .int .u8 0, .int .u8 0, .int .u8 0, .int .u8 0, .int .u8 0, .int .u8 0, .int .u8 0, .int .u8 0, .int .u8 0, .int .u8 0, .int .u8 0, .int .u8 0]
def zTKD {H : Type} : DataW H := .agg [.lit (.string []), .lit (.int .i64 0), .nil, .agg [.lit (.int .u8 0), .lit (.int .u8 0), .lit (.int .u8 0), .lit (.int .u8 0), .lit (.int .u8 0), .lit (.int .u8 0), .lit (.int .u8 0), .lit (.int .u8 0), .lit (.int .u8 0), .lit (.int .u8 0), .lit (.int .u8 0), .lit (.int .u8 0), .lit (.int .u8 0), .lit (.int .u8 0), .lit (.int .u8 0), .lit (.int .u8 0), .lit (.int .u8 0), .lit (.int .u8 0), .lit (.int .u8 0), .lit (.int .u8 0), .lit (.int .u8 0), .lit (.int .u8 0), .lit (.int .u8 0), .lit (.int .u8 0), .lit (.int .u8 0), .lit (.int .u8 0), .lit (.int .u8 0), .lit (.int .u8 0), .lit (.int .u8 0), .lit (.int .u8 0), .lit (.int .u8 0), .lit (.int .u8 0)]]
noncomputable def laidWorld (os : Os) : World :=
  let w := World.holding Tryd.prog os ⟨#[], #[], []⟩
  { w with heap := ((w.heap.modify 2 fun
      | .cells _ t frozen => .cells ((Go.Pinned.utf8FirstZ.map fun (z : Nat) => Value.int .u8 (z : Int)).toArray) t frozen
      | o => o).modify 3 fun
      | .cells _ t frozen => .cells (((([128, 191, 160, 191, 128, 159, 144, 191, 128, 143] ++ List.replicate 22 0) : List Int).map fun z => Value.int .u8 z).toArray) t frozen
      | o => o).modify 0 fun
      | .cells _ t frozen => .cells ((([0, 15, 49, 48, 2, 64, 128, 48, 16] : List Int).map fun z => Value.int .u64 z).toArray) t frozen
      | o => o }
end Go.Proofs.YtgfhbachgniipaaDoor
