/- SHA-256 by the program: bytes written to a hash. (and what follows) -/
import Derived.Test.YtjcpgjnogcmalaaDoorT5
import Derived.BigRegion
import Derived.Laws.OwnMore
import Derived.Test.YtjcpgjnogcmalaaDoorT4
/-! SHA-256 by the program: bytes written to a hash. -/
namespace Go.Proofs.YtjcpgjnogcmalaaDoor
set_option linter.unusedVariables false
set_option linter.unusedSimpArgs false
open Go.RowKit
theorem copy_world {P : Program} {w : World} (dT sT : TypeId) (elem : TypeId) (hu : P.underlying dT = some (.slice elem)) (hsz : (P.info? elem).map (·.size) = some 1)
    (g off dLen dCap : Nat) (sp : Option Addr) (sLen sCap : Nat) (cur : List Value) (t : TypeId) (B : Blk w g t cur.toArray) (xs : List UInt8) (hS : Rd.u8.Sl w sp sLen xs) (k : Nat) (hk : k = Nat.min sLen dLen) (hfit : off + k ≤ cur.length) :
    ∃ w', Blk w' g t (cur.take off ++ ((xs.take k).map u1 ++ cur.drop (off + k))).toArray ∧ Exc g (g + 1) w w' ∧ ∀ (ev : Operand → Value) (o : Oper) (d s : Operand), o.op = .call { callee := .builtin .copy, args := #[d, s], argTypes := #[dT, sT] } → ev d = .slice (some ⟨g, off, none⟩) dLen dCap → ev s = .slice sp sLen sCap → (execOp ev o).run P w = .ok (.value (.int .i64 k)) w' := by
  by_cases h0 : k = 0
  · subst h0
    refine ⟨w, by simpa using B, Exc.refl _ _ _, fun ev o d s ho hd hs => ?_⟩
    have hrun := run_copy_none (P := P) w dT sT o.type elem (some ⟨g, off, none⟩) sp dLen dCap sLen sCap hu hsz hk.symm
    simp [execOp, ho, resolve, invoke, builtin, hd, hs, hrun, Result.andThen, goInt]
  · have hkl : k ≤ sLen := by rw [hk]; exact Nat.min_le_left _ _
    have hl := hS.1
    obtain ⟨b, p, e, hc⟩ := hS.2 (by omega)
    subst e
    have hlen : ((xs.take k).map u1).length = k := by rw [List.length_map, List.length_take]; omega
    refine ⟨_, setRow_blk B _, setRow_exc _, fun ev o d s ho hd hs => ?_⟩
    have hrun := run_copy_row (P := P) w dT sT o.type elem g off dLen dCap ⟨b, p, none⟩ sLen sCap cur.toArray t ((xs.take k).map u1) hu hsz B (by rw [hlen]; exact hk) (by
      intro j v hv
      have hj := (List.getElem?_eq_some_iff.1 hv).1
      rw [hlen] at hj
      obtain ⟨cs, hK, hcell⟩ := hc j (by omega)
      have h1 := hcell 0 (u1 (xs[j]'(by omega))) (by rw [show cs = [_] from hK]; rfl)
      have h2 : v = u1 (xs[j]'(by omega)) := by
        rw [List.getElem?_map, List.getElem?_take_of_lt hj, List.getElem?_eq_getElem (by omega)] at hv
        exact (Option.some.inj hv).symm
      rw [h2]
      have h3 : (⟨b, p, none⟩ : Addr).add j = ⟨b, p + j, none⟩ := by unfold Addr.add; split <;> simp_all
      rw [h3]
      simpa [Rd.u8] using h1) (by rw [hlen]; simpa using hfit) (by
      intro v hv
      obtain ⟨x, -, rfl⟩ := List.mem_map.1 hv
      rfl)
    rw [hlen] at hrun
    simp [execOp, ho, resolve, invoke, builtin, hd, hs, hrun, Result.andThen, goInt]
/-- A hash that was written to; all: how many bytes it says there were. -/
def HashB (w : World) (g : Nat) (m : List UInt8) (all : Nat) : Prop := ∃ rest, Waits m rest ∧ Blk w g 123 (hashL (absS m) rest (m.length % 64) all).toArray
theorem hashL_len (s : H8) (rest : List UInt8) (a b : Nat) (h : rest.length = 64) : (hashL s rest a b).length = 74 := by
  unfold hashL h8L
  simp [h]
theorem hashL_have (s : H8) (rest : List UInt8) (a b : Nat) (h : rest.length = 64) : (hashL s rest a b).toArray[72]? = some (.int .i64 a) := by
  unfold hashL h8L
  rw [List.getElem?_toArray, List.getElem?_append_right (by simp)]
  rw [List.getElem?_append_right (by simp [h])]
  simp [h]
theorem hashL_all (s : H8) (rest : List UInt8) (a b : Nat) (h : rest.length = 64) : (hashL s rest a b).toArray[73]? = some (.int .u64 b) := by
  unfold hashL h8L
  rw [List.getElem?_toArray, List.getElem?_append_right (by simp)]
  rw [List.getElem?_append_right (by simp [h])]
  simp [h]
theorem hashL_rest (s : H8) (rest : List UInt8) (a b i : Nat) (h : rest.length = 64) (hi : i < 64) : (hashL s rest a b).toArray[8 + i]? = some (u1 (rest.getD i 0)) := by
  unfold hashL h8L
  rw [List.getElem?_toArray, List.getElem?_append_right (by simp)]
  rw [List.getElem?_append_left (by simp [h]; omega)]
  simp [h, hi, List.getD]
theorem hashL_set72 (s : H8) (rest : List UInt8) (a b c : Nat) (h : rest.length = 64) : (hashL s rest a b).toArray.setIfInBounds 72 (.int .i64 c) = (hashL s rest c b).toArray := by
  unfold hashL h8L
  rw [List.setIfInBounds_toArray, List.set_append_right _ _ (by simp), List.set_append_right _ _ (by simp [h])]
  simp [h]
theorem hashL_set73 (s : H8) (rest : List UInt8) (a b c : Nat) (h : rest.length = 64) : (hashL s rest a b).toArray.setIfInBounds 73 (.int .u64 c) = (hashL s rest a c).toArray := by
  unfold hashL h8L
  rw [List.setIfInBounds_toArray, List.set_append_right _ _ (by simp), List.set_append_right _ _ (by simp [h])]
  simp [h]
/-- Bytes laid into the rest. -/
theorem hashL_splice (s : H8) (rest x : List UInt8) (a b hv : Nat) (h : rest.length = 64) (hx : hv + x.length ≤ 64) : (hashL s rest a b).take (8 + hv) ++ (x.map u1 ++ (hashL s rest a b).drop (8 + hv + x.length)) = hashL s (rest.take hv ++ x ++ rest.drop (hv + x.length)) a b := by
  unfold hashL
  have h8 : (h8L s).length = 8 := rfl
  rw [List.take_append, List.drop_append, h8, List.take_of_length_le (by rw [h8]; omega), List.drop_of_length_le (by rw [h8]; omega)]
  rw [show 8 + hv - 8 = hv by omega, show 8 + hv + x.length - 8 = hv + x.length by omega]
  rw [List.take_append_of_le_length (by simp [h]; omega), List.drop_append_of_le_length (by simp [h]; omega)]
  simp [List.map_append, List.map_take, List.map_drop]
end Go.Proofs.YtjcpgjnogcmalaaDoor

/-! SHA-256 by the program: Write. -/
namespace Go.Proofs.YtjcpgjnogcmalaaDoor
set_option linter.unusedVariables false
set_option linter.unusedSimpArgs false
open Go.RowKit
def CapA (A : Option Addr) (g : Nat) : Prop := ∀ p, A = some p → p.block ≠ g
theorem KAt.exc {w w' : World} {lo hi : Nat} (h : KAt w) (e : Exc lo hi w w') (hg : 1 < lo) : KAt w' := fun t ht => e.cell (h t ht) (.inl hg)
theorem restA_block (A : Option Addr) (c i sz g : Nat) (h : CapA A g) : CapA (restA A c i sz) g := by
  intro p hp
  unfold restA at hp
  split at hp
  · exact h p hp
  · cases A with
    | none => simp at hp
    | some a =>
      simp at hp
      subst hp
      have := h a rfl
      unfold Addr.add
      split <;> exact this
theorem hash_load {w : World} {g : Nat} {s : H8} {rest : List UInt8} {a b : Nat} (B : Blk w g 123 (hashL s rest a b).toArray) : (Instr.loadAt 121 (.pointer (some ⟨g, 0, none⟩))).run Tryd.prog w = .ok (.agg (h8A s)) w :=
  load_part B 0 (h8A s) [] (rest.map u1 ++ [.int .i64 a, .int .u64 b]) rfl rfl 121 _ Tryd.underlying121 rfl (by kernel_rfl)
theorem hash_store {w : World} {g : Nat} {s : H8} {rest : List UInt8} {a b : Nat} (B : Blk w g 123 (hashL s rest a b).toArray) (cs : H8) : ∃ w', (Instr.storeAt 121 (.pointer (some ⟨g, 0, none⟩)) (.agg (h8A cs))).run Tryd.prog w = .ok () w' ∧ Blk w' g 123 (hashL cs rest a b).toArray ∧ Exc g (g + 1) w w' := by
  obtain ⟨w6, hr6, B6, hX6⟩ := store_part B 0 (h8A cs) [] (h8L s) (rest.map u1 ++ [.int .i64 a, .int .u64 b]) rfl rfl rfl 121 (by kernel_rfl) (h8A_one _)
  exact ⟨w6, hr6, B6, hX6⟩
set_option maxHeartbeats 9000000 in
set_option maxRecDepth 100000 in
theorem write_any (w : World) (g : Nat) (m x : List UInt8) (all : Nat) (A : Option Addr) (c : Nat) (hK : KAt w) (hg : 1 < g) (hH : HashB w g m all) (hS : Rd.u8.Sl w A x.length x) (hc : x.length ≤ c) (hd : CapA A g) (hn : all + x.length ≤ 1000000000000) :
    Calls Tryd.prog 78 #[.pointer (some ⟨g, 0, none⟩), .slice A x.length c] w fun e w' => e = .returned (.tuple #[]) ∧ HashB w' g (m ++ x) (all + x.length) ∧ Exc g (g + 1) w w' := by
  obtain ⟨rest, hW, B⟩ := hH
  have hr := hW.1
  obtain ⟨n, hnx⟩ : ∃ n, x.length = n := ⟨_, rfl⟩
  rw [hnx] at hS hc hn ⊢
  have c73 := B.cell 73 (hashL_all _ rest _ _ hr)
  have f73 := B.frozen 73
  have a1 : IntKind.u64.wrap ((all : Int) + (n : Int)) = ((all + n : Nat) : Int) := by rw [IntKind.wrap_u64]; omega
  have a2 : IntKind.u64.wrap (n : Int) = (n : Int) := by rw [IntKind.wrap_u64]; omega
  obtain ⟨s, hs⟩ : ∃ s, absS m = s := ⟨_, rfl⟩
  rw [hs] at B
  have HS := Lib.hid hs
  have HX := Lib.hid hnx
  clear hs hnx
  obtain ⟨al, hal⟩ : ∃ z, all + n = z := ⟨_, rfl⟩
  rw [hal] at a1 hn ⊢
  have HA := Lib.hid hal
  clear hal
  go_enter Tryd.func78, Tryd.ntmps78
  go_upto_region 1 with fail
  have B' : Blk (w.setCell ⟨g, 73, none⟩ (.int .u64 (al : Int))) g 123 (hashL s rest (m.length % 64) al).toArray := by rw [← hashL_set73 s rest _ all al hr]; exact B.set_ 73 _
  have hX : Exc g (g + 1) w (w.setCell ⟨g, 73, none⟩ (.int .u64 (al : Int))) := set_exc _ _ _ _
  clear c73 f73 a1 a2 B
  generalize w.setCell ⟨g, 73, none⟩ (.int .u64 (al : Int)) = W at *
  have hSW := sl8_exc hS hX (fun p hp => by have := hd p hp; omega)
  have hKW := hK.exc hX hg
  go_loopw [1] (fun b wr => ∃ A' c' y z, x = y ++ z ∧ b = .slice A' z.length c' ∧ z.length ≤ c' ∧ Rd.u8.Sl wr A' z.length z ∧ CapA A' g ∧ HashB wr g (m ++ y) al ∧ Exc g (g + 1) w wr ∧ KAt wr) (fun b _ => match b with | .slice _ n _ => n | _ => 0)
  case atStart => exact ⟨A, c, [], x, rfl, by rw [HX.out], by rw [HX.out]; exact hc, by rw [HX.out]; exact hSW, hd, by rw [List.append_nil]; exact ⟨rest, hW, by rw [HS.out]; exact B'⟩, hX, hKW⟩
  case round =>
    clear hS hSW hX hKW hK B' hW
    obtain ⟨A', c', y, z, hyz, rfl, hzc, hSz, hdz, hH, hX, hK⟩ := hrel
    obtain ⟨rest, hW, B⟩ := hH
    obtain ⟨k, hk⟩ : ∃ k, z.length = k := ⟨_, rfl⟩
    rw [hk] at hzc hSz
    have HK := Lib.hid hk
    rw [hk]
    clear hk
    have HYZ := Lib.hid hyz
    clear hyz
    by_cases h0 : 0 < k
    · go_upto_region 2 with fail
      obtain ⟨hv, hhv⟩ : ∃ q, (m ++ y).length % 64 = q := ⟨_, rfl⟩
      have hv64 : hv < 64 := by omega
      have hr := hW.1
      rw [hhv] at B
      have c72 := B.cell 72 (hashL_have _ rest _ _ hr)
      have HV := Lib.hid hhv
      clear hhv
      have i1 : (hv : Int) < 64 := by omega
      have i2 : (hv : Int) ≤ 64 := by omega
      have i3 : ¬ (64 : Int) < (hv : Int) := by omega
      have i4 : ¬ (64 = hv) := by omega
      refine wp_region_noPanic ?_
      refine tr_start (.y 0 (.y 1 (.y 2 (.y 3 (.y 4 (.y 5 (.y 6 (.y 7 (.y 8 (.e 9 (.y 10 .nil))))))))))) (fun w' => w'.cell? ⟨g, 72, none⟩ = some (.int .i64 (hv : Int))) (by kernel_rfl) (by as_aux_lemma => kernel_rfl) (fun _ _ _ _ _ h => h) (c72) ?_
      iterate 9 (first | (refine tr_off (a' := ?_) rfl rfl (by rfl) ?_ ?_; rotate_left 1; (· simp only [Act.put, List.setIfInBounds_toArray, List.set_cons_zero, List.set_cons_succ]; rfl)) | (refine tr_y (v := ?_) (a' := ?_) rfl rfl (by rfl) (fun w' hw' => ?_) ?_ ?_; rotate_left 2; (· go_simp; with_reducible rfl); (· simp only [Act.put, List.setIfInBounds_toArray, List.set_cons_zero, List.set_cons_succ]; rfl)))
      obtain ⟨kk, hkk⟩ : ∃ q, q = Nat.min k (64 - hv) := ⟨_, rfl⟩
      have hkk0 : 0 < kk := by rw [hkk]; exact Nat.lt_min.2 ⟨h0, by omega⟩
      have hkk1 : kk ≤ k := by rw [hkk]; exact Nat.min_le_left _ _
      have hkk2 : hv + kk ≤ 64 := by have : kk ≤ 64 - hv := by rw [hkk]; exact Nat.min_le_right _ _
                                     omega
      obtain ⟨w2, B2, hX2, hrun⟩ := copy_world (P := Tryd.prog) (w := wr.drew) 40 40 5 Tryd.underlying40 (by kernel_rfl) g (8 + hv) (64 - hv) (64 - hv) A' k c' _ 123 B.drew z (hSz.ext (Ext.refl _).drew) kk hkk (by rw [hashL_len _ _ _ _ hr]; omega)
      have HKK := Lib.hid hkk
      clear hkk
      have hzl : z.length = k := HK.out
      have hB2 := hashL_splice (absS (m ++ y)) rest (z.take kk) hv al hv hr (by rw [List.length_take]; omega)
      rw [List.length_take, Nat.min_eq_left (by omega)] at hB2
      rw [hB2] at B2
      refine tr_value (v := .int .i64 kk) (w1 := w2) (a' := ?_) rfl rfl (by rfl) ?_ ?_ ?_ ?_
      rotate_left 1
      · exact hrun _ _ _ _ rfl rfl rfl
      · exact B2.cell 72 (hashL_have _ _ _ _ (by rw [List.length_append, List.length_append, List.length_take, List.length_take, List.length_drop]; omega))
      · simp only [Act.put, List.setIfInBounds_toArray, List.set_cons_zero, List.set_cons_succ]; rfl
      iterate 1 (first | (refine tr_off (a' := ?_) rfl rfl (by rfl) ?_ ?_; rotate_left 1; (· simp only [Act.put, List.setIfInBounds_toArray, List.set_cons_zero, List.set_cons_succ]; rfl)) | (refine tr_y (v := ?_) (a' := ?_) rfl rfl (by rfl) (fun w' hw' => ?_) ?_ ?_; rotate_left 2; (· go_simp; with_reducible rfl); (· simp only [Act.put, List.setIfInBounds_toArray, List.set_cons_zero, List.set_cons_succ]; rfl)))
      refine tr_end (NoPanic.normal ?_)
      have hr2 : (rest.take hv ++ z.take kk ++ rest.drop (hv + kk)).length = 64 := by rw [List.length_append, List.length_append, List.length_take, List.length_take, List.length_drop]; omega
      obtain ⟨rest2, hrest2⟩ : ∃ q, rest.take hv ++ z.take kk ++ rest.drop (hv + kk) = q := ⟨_, rfl⟩
      rw [hrest2] at B2 hr2
      have HR := Lib.hid hrest2
      have hX2 : Exc g (g + 1) wr w2 := (Exc.drew (Exc.refl _ _ _)).trans hX2
      have hX := hX.trans hX2
      have hK := hK.exc hX2 hg
      have hSz := sl8_exc hSz hX2 (fun p hp => by have := hdz p hp; omega)
      have HB := Lib.hid hB2
      clear hrun hX2 c72 i1 i2 i3 i4 B hrest2 hB2 hzl
      have c72 := B2.cell 72 (hashL_have _ rest2 _ _ hr2)
      have f72 := B2.frozen 72
      have hsl := fun (w : World) => run_slice_from (P := Tryd.prog) elt_bytes A' k c' kk hkk1 w
      have a1 : IntKind.i64.wrap ((hv : Int) + (kk : Int)) = ((hv + kk : Nat) : Int) := by rw [IntWalk.i64_in _ (by omega)]; omega
      obtain ⟨hk2, hhk2⟩ : ∃ q, hv + kk = q := ⟨_, rfl⟩
      rw [hhk2] at a1 hkk2
      have HH := Lib.hid hhk2
      clear hhk2
      go_upto_region 3 with fail
      go_region
      go_upto_region 4 with fail
      have B3 : Blk (w2.setCell ⟨g, 72, none⟩ (.int .i64 (hk2 : Int))).drew g 123 (hashL (absS (m ++ y)) rest2 hk2 al).toArray := by
        rw [← hashL_set72 _ rest2 hv al hk2 hr2]; exact (B2.set_ 72 _).drew
      have hX3 : Exc g (g + 1) w2 (w2.setCell ⟨g, 72, none⟩ (.int .i64 (hk2 : Int))).drew := (set_exc _ _ _ _).drew
      have hX := hX.trans hX3
      have hK := hK.exc hX3 hg
      have hSz := sl8_exc hSz hX3 (fun p hp => by have := hdz p hp; omega)
      have hSr := sl_rest hSz c' kk hkk1 hzc
      have hdr := restA_block A' c' kk 1 g hdz
      have hzr : (z.drop kk).length = k - kk := by rw [List.length_drop, HK.out]
      have HZR := Lib.hid hzr
      clear hX3 B2 c72 f72 hsl a1 hSz hdz hzr
      generalize (w2.setCell ⟨g, 72, none⟩ (.int .i64 (hk2 : Int))).drew = w3 at *
      have c72 := B3.cell 72 (hashL_have _ rest2 _ _ hr2)
      have hzl := HK.out
      have hmin := HKK.out
      have hHH := HH.out
      by_cases hf : hk2 = 64
      · subst hf
        have hful := waits_full (m ++ y) rest (z.take kk) hW (by rw [HV.out, List.length_take]; omega)
        have e2 : rest2 = rest.take hv ++ z.take kk := by rw [← HR.out, List.drop_of_length_le (by omega), List.append_nil]
        rw [HV.out, ← e2] at hful
        obtain ⟨hW2, hs2, hl2⟩ := hful
        have HS2 := Lib.hid hs2
        have HL2 := Lib.hid hl2
        have htk := fun (w' : World) (e : Ext w3 w') => stake_any w' (absS (m ++ y)) g 8 rest2 (hK.ext e) (fun i hi => e.cellk (B3.cell (8 + i) (hashL_rest _ rest2 _ _ i hr2 hi)))
        have ld := hash_load B3.drew
        clear hs2 hl2 e2 hmin hHH hzl HR HKK HH hkk2
        generalize absS (m ++ y) = st at *
        generalize comp st rest2 = cs at *
        go_upto_region 5 with fail
        refine wp_region_noPanic ?_
        refine tr_start (.y 0 (.y 1 (.y 2 (.y 3 (.y 4 (.y 6 (.y 7 (.y 8 (.e 5 (.e 9 (.y 10 (.y 11 (.e 12 (.y 13 (.y 14 (.e 15 .nil)))))))))))))))) (fun _ => True) (by kernel_rfl) (by as_aux_lemma => kernel_rfl) (fun _ _ _ _ _ h => h) (trivial) ?_
        iterate 8 (first | (refine tr_off (a' := ?_) rfl rfl (by rfl) ?_ ?_; rotate_left 1; (· simp only [Act.put, List.setIfInBounds_toArray, List.set_cons_zero, List.set_cons_succ]; rfl)) | (refine tr_y (v := ?_) (a' := ?_) rfl rfl (by rfl) (fun w' hw' => ?_) ?_ ?_; rotate_left 2; (· go_simp; with_reducible rfl); (· simp only [Act.put, List.setIfInBounds_toArray, List.set_cons_zero, List.set_cons_succ]; rfl)))
        refine tr_value (v := .agg (h8A st)) (w1 := w3.drew) (a' := ?_) rfl rfl (by rfl) ?_ ?_ ?_ ?_
        rotate_left 1
        · exact run_op_load rfl (by rfl) ld
        · trivial
        · simp only [Act.put, List.setIfInBounds_toArray, List.set_cons_zero, List.set_cons_succ]; rfl
        refine tr_call (args := ?_) rfl Tryd.func101 (by kernel_rfl) rfl (by rfl) rfl rfl ?_ ?_
        rotate_left 1
        · go_simp; rfl
        (with_reducible refine (htk w3.drew (Ext.refl _).drew).mono ?_)
        rintro e w5 ⟨rfl, hE5⟩
        refine ⟨_, _, rfl, trivial, (by simp only [Act.put, List.setIfInBounds_toArray, List.set_cons_zero, List.set_cons_succ]; rfl), ?_⟩
        iterate 2 (first | (refine tr_off (a' := ?_) rfl rfl (by rfl) ?_ ?_; rotate_left 1; (· simp only [Act.put, List.setIfInBounds_toArray, List.set_cons_zero, List.set_cons_succ]; rfl)) | (refine tr_y (v := ?_) (a' := ?_) rfl rfl (by rfl) (fun w' hw' => ?_) ?_ ?_; rotate_left 2; (· go_simp; with_reducible rfl); (· simp only [Act.put, List.setIfInBounds_toArray, List.set_cons_zero, List.set_cons_succ]; rfl)))
        have hE5' : Ext w3 w5 := (Ext.refl w3).drew.trans hE5
        obtain ⟨w6, hr6, B6, hX6⟩ := hash_store (B3.ext hE5') cs
        refine tr_store (w1 := w6) rfl (by rfl) rfl (run_op_store rfl (by rfl) (by rfl) hr6) trivial ?_
        iterate 2 (first | (refine tr_off (a' := ?_) rfl rfl (by rfl) ?_ ?_; rotate_left 1; (· simp only [Act.put, List.setIfInBounds_toArray, List.set_cons_zero, List.set_cons_succ]; rfl)) | (refine tr_y (v := ?_) (a' := ?_) rfl rfl (by rfl) (fun w' hw' => ?_) ?_ ?_; rotate_left 2; (· go_simp; with_reducible rfl); (· simp only [Act.put, List.setIfInBounds_toArray, List.set_cons_zero, List.set_cons_succ]; rfl)))
        have hX6' : Exc g (g + 1) w3 w6 := (Ext.exc hE5').trans hX6
        clear hr6 hX6 hE5 hE5' htk ld B3 c72
        have c72 := B6.cell 72 (hashL_have _ rest2 _ _ hr2)
        have f72 := B6.frozen 72
        refine tr_last (w1 := w6.setCell ⟨g, 72, none⟩ (.int .i64 0)) rfl (by rfl) rfl (by kernel_rfl) (by go_simp; try rfl) ?_
        have B7 : Blk (w6.setCell ⟨g, 72, none⟩ (.int .i64 0)) g 123 (hashL cs rest2 0 al).toArray := by
          rw [← hashL_set72 _ rest2 64 al 0 hr2]; exact B6.set_ 72 _
        have hX7 : Exc g (g + 1) w3 (w6.setCell ⟨g, 72, none⟩ (.int .i64 0)) := hX6'.trans (set_exc _ _ _ _)
        have hX := hX.trans hX7
        have hK := hK.exc hX7 hg
        have hSr := sl8_exc hSr hX7 (fun p hp => by have := hdr p hp; omega)
        clear c72 f72 hX7 hX6' B6
        generalize w6.setCell ⟨g, 72, none⟩ (.int .i64 0) = w7 at *
        refine NoPanic.normal ?_
        go_wp2_with fail
        go_roundw
        case rel =>
          refine ⟨restA A' c' kk 1, c' - kk, y ++ z.take kk, z.drop kk, by rw [HYZ.out, List.append_assoc, List.take_append_drop], by rw [HZR.out], by rw [HZR.out]; omega, by rw [HZR.out]; exact hSr, hdr, ?_, hX, hK⟩
          rw [← List.append_assoc]
          exact ⟨rest2, hW2, by rw [HS2.out, HL2.out]; exact B7⟩
        case measure => simp only; omega
      · have hfew := waits_few (m ++ y) rest (z.take kk) hW (by rw [HV.out, List.length_take]; omega)
        have hlt : (z.take kk).length = kk := by rw [List.length_take]; omega
        rw [HV.out, hlt, HR.out, hHH] at hfew
        obtain ⟨hW2, hs2, hl2⟩ := hfew
        have HS2 := Lib.hid hs2
        have HL2 := Lib.hid hl2
        have hf2 : (((hk2 : Int)) == 64) = false := by simp; omega
        clear hs2 hl2 hmin hHH hzl HR HKK HH hkk2 hlt
        go_wp2_with fail
        go_roundw
        case rel =>
          refine ⟨restA A' c' kk 1, c' - kk, y ++ z.take kk, z.drop kk, by rw [HYZ.out, List.append_assoc, List.take_append_drop], by rw [HZR.out], by rw [HZR.out]; omega, by rw [HZR.out]; exact hSr, hdr, ?_, hX, hK⟩
          rw [← List.append_assoc]
          exact ⟨rest2, hW2, by rw [HS2.out, HL2.out]; exact B3⟩
        case measure => simp only; omega
    · obtain rfl : k = 0 := by omega
      have hz0 : z = [] := List.eq_nil_of_length_eq_zero HK.out
      have hxy : x = y := by rw [HYZ.out, hz0, List.append_nil]
      have hHB : HashB wr g (m ++ x) al := by rw [hxy]; exact ⟨rest, hW, B⟩
      clear hSz B hz0 hxy
      go_wp2_with fail
      go_end0
      exact ⟨rfl, hHB, hX⟩
end Go.Proofs.YtjcpgjnogcmalaaDoor

/-! SHA-256 by the program: New. -/
namespace Go.Proofs.YtjcpgjnogcmalaaDoor
set_option linter.unusedVariables false
set_option linter.unusedSimpArgs false
open Go.RowKit
def IAt (w : World) : Prop := ∀ t, t < 8 → w.cell? ⟨0, t, none⟩ = some (u3 (shaI.at_ t))
theorem IAt.ext {w w' : World} (h : IAt w) (e : Ext w w') : IAt w' := fun t ht => e.cellk (h t ht)
theorem IAt.load {w : World} (h : IAt w) : (Instr.loadAt 121 (.pointer (some ⟨0, 0, none⟩))).run Tryd.prog w = .ok (.agg (h8A shaI)) w := by
  have := run_loadAt_mid (P := Tryd.prog) w 0 0 121 (h8A shaI).toList _ (fun j v hv => by
    have hj : j < 8 := by have := (List.getElem?_eq_some_iff.1 hv).1; simpa [h8A] using this
    rw [Nat.zero_add, h j hj]
    have := h8A_at shaI j hj
    rw [← Array.getElem?_toList] at this
    rw [← this]; exact hv) Tryd.underlying121 rfl (by kernel_rfl)
  simpa using this
theorem absS_nil : absS [] = shaI := rfl
theorem run_buildH {ev : Operand → Value} {o : Oper} {w : World} {x0 : Operand} {s : H8} (ho : o.op = .build 123 #[(0, x0)]) (h0 : ev x0 = .agg (h8A s)) :
    (execOp ev o).run Tryd.prog w = .ok (.value (.agg (hashL s (List.replicate 64 0) 0 0).toArray)) w := by
  unfold execOp
  simp only [ho, h0, List.map_toArray, List.map_cons, List.map_nil]
  kernel_rfl
set_option maxHeartbeats 9000000 in
set_option maxRecDepth 100000 in
theorem new_any (w : World) (hI : IAt w) : Calls Tryd.prog 77 #[] w fun e w' => e = .returned (.pointer (some ⟨w.heap.size, 0, none⟩)) ∧ HashB w' w.heap.size [] 0 ∧ Ext w w' := by
  have ld := hI.load
  obtain ⟨I, hIe⟩ : ∃ I, shaI = I := ⟨_, rfl⟩
  rw [hIe] at ld
  have HI := Lib.hid hIe
  clear hIe
  go_enter Tryd.func77, Tryd.ntmps77
  go_upto_region 1 with fail
  refine wp_region_lit ?_
  refine pl_y (v := ?_) (a' := ?_) rfl (by rfl) ?_ ?_ ?_
  rotate_left 2
  · (refine (run_op_load rfl ?_ (ld)).trans ?_; (· rfl); (· with_reducible rfl))
  · simp only [Act.put, List.setIfInBounds_toArray, List.set_cons_zero, List.set_cons_succ]; rfl
  refine pl_y (a' := ?_) rfl (by rfl) (run_buildH rfl rfl) ?_ ?_
  rotate_left 1
  · simp only [Act.put, List.setIfInBounds_toArray, List.set_cons_zero, List.set_cons_succ]; rfl
  obtain ⟨C, hC⟩ : ∃ C, (hashL I (List.replicate 64 0) 0 0).toArray = C := ⟨_, rfl⟩
  rw [hC]
  have B := Blk.new w 123 C
  have HC := Lib.hid hC
  clear hC
  refine pl_v (v := ?_) (w1 := ?_) (a' := ?_) rfl (by rfl) ?_ ?_ ?_
  rotate_left 3
  · go_simp; refine ⟨?_, ?_⟩ <;> with_reducible rfl
  · simp only [Act.put, List.setIfInBounds_toArray, List.set_cons_zero, List.set_cons_succ]; rfl
  iterate 1 (first | (refine pl_off (a' := ?_) rfl (by rfl) ?_ ?_; rotate_left 1; (· simp only [Act.put, List.setIfInBounds_toArray, List.set_cons_zero, List.set_cons_succ]; rfl)) | (refine pl_y (v := ?_) (a' := ?_) rfl (by rfl) ?_ ?_ ?_; rotate_left 2; (· go_simp; with_reducible rfl); (· simp only [Act.put, List.setIfInBounds_toArray, List.set_cons_zero, List.set_cons_succ]; rfl)))
  refine wpList_nil ?_
  go_wp2_with fail
  go_ret
  refine ⟨rfl, ⟨List.replicate 64 0, waits_nil _ (by simp), ?_⟩, (Ext.refl _).alloc _⟩
  rw [absS_nil, HI.out, List.length_nil, Nat.zero_mod, HC.out]
  exact B
end Go.Proofs.YtjcpgjnogcmalaaDoor

/-! SHA-256 by the program: the sum of what was written. -/
namespace Go.Proofs.YtjcpgjnogcmalaaDoor
set_option linter.unusedVariables false
set_option linter.unusedSimpArgs false
open Go.RowKit
/-- Zeros made. -/
theorem made_enc (n : Nat) : (madeCells (Value.int .u8 0).cells (n * 1)).toList = (List.replicate n (0 : UInt8)).flatMap encB := by
  rw [Nat.mul_one]
  have h1 : (madeCells (Value.int .u8 0).cells n).toList = List.replicate n (.int .u8 0) := by
    unfold madeCells
    apply List.ext_getElem
    · simp
    · intro i h1 h2
      simp [Value.cells, Nat.mod_one]
  have h2 : ∀ n : Nat, (List.replicate n (0 : UInt8)).flatMap encB = List.replicate n (.int .u8 0) := by
    intro n
    induction n with
    | zero => rfl
    | succ n ih => rw [List.replicate_succ, List.flatMap_cons, ih, List.replicate_succ]; rfl
  rw [h1, h2]
theorem make_zeros (n : Nat) (hn : n ≤ 64) (w : World) : ∃ w', (Instr.makeSlice 40 (.int .i64 (n : Int)) (.int .i64 (n : Int))).run Tryd.prog w = .ok (.slice (some ⟨w.heap.size, 0, none⟩) n n) w' ∧ Rd.u8.Sl w' (some ⟨w.heap.size, 0, none⟩) n (List.replicate n 0) ∧ Ext w w' := by
  obtain ⟨i0, hi, hz0, hz1, hz2⟩ := info_parts (P := Tryd.prog) (e := 5) (z := .int .u8 0) (size := 1) (bytes := 1) (by kernel_rfl)
  obtain ⟨w', hr, hown, hg⟩ := run_makeSlice_full w.heap.size 40 5 i0 (.int .u8 0) 1 (w := w) Tryd.underlying40 hi hz0 hz1 .i64 .i64 n (by omega) (by rw [hz2]; omega) (by unfold maxLen; omega) (Nat.le_refl _)
  refine ⟨w', hr, ?_, ?_⟩
  · rw [made_enc] at hown
    obtain ⟨A, c, hv, h1, -, h2⟩ := own_bytes (lo := 0) (hi := w'.heap.size) (l := List.replicate n 0) (by rw [List.length_replicate]; exact hown) (Nat.zero_le _) (Nat.le_refl _)
    rw [List.length_replicate] at hv h2
    obtain ⟨rfl, -, rfl⟩ := Value.slice.inj hv
    exact h2.mono only_cle
  · exact Below.grown (Below.refl _ _) hg (Nat.le_refl _) (fun k e => by cases e)
theorem hash_row {s : H8} {rest : List UInt8} {a b : Nat} (h : rest.length = 64) : ((hashL s rest a b).toArray).size = 74 ∧ ((hashL s rest a b).toArray).all (·.oneCell') = true := by
  refine ⟨by simpa using hashL_len s rest a b h, ?_⟩
  unfold hashL h8L
  simp [u3, u1, Value.oneCell']
theorem hash_whole {w : World} {g : Nat} {s : H8} {rest : List UInt8} {a b : Nat} (h : rest.length = 64) (B : Blk w g 123 (hashL s rest a b).toArray) : (Instr.loadAt 123 (.pointer (some ⟨g, 0, none⟩))).run Tryd.prog w = .ok (.agg (hashL s rest a b).toArray) w :=
  load_whole B 123 _ Tryd.underlying123 rfl (by rw [(hash_row h).1]; kernel_rfl)
set_option maxHeartbeats 1000000 in
set_option maxRecDepth 100000 in
theorem hash_box (w : World) {s : H8} {rest : List UInt8} {a b : Nat} (h : rest.length = 64) : ∃ w', (Instr.storeAt 123 (.pointer (some ⟨w.heap.size, 0, none⟩)) (.agg (hashL s rest a b).toArray)).run Tryd.prog (w.alloc (.cells #[.int .u32 0, .int .u32 0, .int .u32 0, .int .u32 0, .int .u32 0, .int .u32 0, .int .u32 0, .int .u32 0, .int .u8 0, .int .u8 0, .int .u8 0, .int .u8 0, .int .u8 0, .int .u8 0, .int .u8 0, .int .u8 0, .int .u8 0, .int .u8 0, .int .u8 0, .int .u8 0, .int .u8 0, .int .u8 0, .int .u8 0, .int .u8 0, .int .u8 0, .int .u8 0, .int .u8 0, .int .u8 0, .int .u8 0, .int .u8 0, .int .u8 0, .int .u8 0, .int .u8 0, .int .u8 0, .int .u8 0, .int .u8 0, .int .u8 0, .int .u8 0, .int .u8 0, .int .u8 0, .int .u8 0, .int .u8 0, .int .u8 0, .int .u8 0, .int .u8 0, .int .u8 0, .int .u8 0, .int .u8 0, .int .u8 0, .int .u8 0, .int .u8 0, .int .u8 0, .int .u8 0, .int .u8 0, .int .u8 0, .int .u8 0, .int .u8 0, .int .u8 0, .int .u8 0, .int .u8 0, .int .u8 0, .int .u8 0, .int .u8 0, .int .u8 0, .int .u8 0, .int .u8 0, .int .u8 0, .int .u8 0, .int .u8 0, .int .u8 0, .int .u8 0, .int .u8 0, .int .i64 0, .int .u64 0] 123)) = .ok () w' ∧ Blk w' w.heap.size 123 (hashL s rest a b).toArray ∧ Ext w w' :=
  box_row w 123 #[.int .u32 0, .int .u32 0, .int .u32 0, .int .u32 0, .int .u32 0, .int .u32 0, .int .u32 0, .int .u32 0, .int .u8 0, .int .u8 0, .int .u8 0, .int .u8 0, .int .u8 0, .int .u8 0, .int .u8 0, .int .u8 0, .int .u8 0, .int .u8 0, .int .u8 0, .int .u8 0, .int .u8 0, .int .u8 0, .int .u8 0, .int .u8 0, .int .u8 0, .int .u8 0, .int .u8 0, .int .u8 0, .int .u8 0, .int .u8 0, .int .u8 0, .int .u8 0, .int .u8 0, .int .u8 0, .int .u8 0, .int .u8 0, .int .u8 0, .int .u8 0, .int .u8 0, .int .u8 0, .int .u8 0, .int .u8 0, .int .u8 0, .int .u8 0, .int .u8 0, .int .u8 0, .int .u8 0, .int .u8 0, .int .u8 0, .int .u8 0, .int .u8 0, .int .u8 0, .int .u8 0, .int .u8 0, .int .u8 0, .int .u8 0, .int .u8 0, .int .u8 0, .int .u8 0, .int .u8 0, .int .u8 0, .int .u8 0, .int .u8 0, .int .u8 0, .int .u8 0, .int .u8 0, .int .u8 0, .int .u8 0, .int .u8 0, .int .u8 0, .int .u8 0, .int .u8 0, .int .i64 0, .int .u64 0] _ (by rw [(hash_row h).1]; rfl) (by rw [(hash_row h).1]; kernel_rfl) (hash_row h).2
theorem padZ_lo (n : Nat) (h : ¬ 56 < (n + 1) % 64) : 56 - (n + 1) % 64 = padZ n := by unfold padZ; omega
theorem padZ_hi (n : Nat) (h : 56 < (n + 1) % 64) : (64 - (n + 1) % 64) + 56 = padZ n := by unfold padZ; omega
end Go.Proofs.YtjcpgjnogcmalaaDoor

/-! SHA-256 by the program: the sum of what was written, walked. -/
namespace Go.Proofs.YtjcpgjnogcmalaaDoor
set_option linter.unusedVariables false
set_option linter.unusedSimpArgs false
open Go.RowKit
theorem blk_one8 {w : World} {g : Nat} {t : TypeId} {x : UInt8} (h : Blk w g t #[.int .u8 (x.toNat : Int)]) : Rd.u8.Sl w (some ⟨g, 0, none⟩) 1 [x] :=
  ⟨rfl, fun _ => ⟨g, 0, rfl, fun i hi => ⟨_, rfl, fun j u hu => by
    obtain rfl : i = 0 := by simp at hi; omega
    obtain rfl : j = 0 := by have := (List.getElem?_eq_some_iff.1 hu).1; simp at this; exact this
    exact h.cell 0 (v := u) hu⟩⟩⟩
theorem HashB.ext {w w' : World} {g : Nat} {m : List UInt8} {all : Nat} (h : HashB w g m all) (e : Ext w w') : HashB w' g m all := by
  obtain ⟨r, h1, B⟩ := h
  exact ⟨r, h1, B.ext e⟩
theorem HashB.lt {w : World} {g : Nat} {m : List UInt8} {all : Nat} (h : HashB w g m all) : g < w.heap.size := by
  obtain ⟨r, h1, B⟩ := h
  exact B.lt
theorem HashB.have_ {w : World} {g : Nat} {m : List UInt8} {all : Nat} (h : HashB w g m all) : w.cell? ⟨g, 72, none⟩ = some (.int .i64 ((m.length % 64 : Nat) : Int)) := by
  obtain ⟨r, h1, B⟩ := h
  exact B.cell 72 (hashL_have _ r _ _ h1.1)
theorem run_op_make {P : Program} {o : Oper} {ev : Operand → Value} {ty : TypeId} {x y : Operand} {w w' : World} {a b v : Value} (ho : o.op = .makeSlice ty x y) (hx : ev x = a) (hy : ev y = b) (h : (Instr.makeSlice ty a b).run P w = .ok v w') : (execOp ev o).run P w = .ok (.value v) w' := by
  unfold execOp
  simp only [ho, hx, hy, Sem.run_bind, h, Result.andThen_ok, Sem.run_pure]
theorem len_val (n j : Nat) (hn : n ≤ 100000000000) : ((n : Int) * 8 / 2 ^ (8 * j) % 256) = ((UInt8.ofNat ((n * 8 % 18446744073709551616) / 256 ^ j)).toNat : Int) := by
  rw [Nat.mod_eq_of_lt (by omega), UInt8.toNat_ofNat']
  have e : (256 : Nat) ^ j = 2 ^ (8 * j) := by rw [Nat.pow_mul]
  rw [e]
  have h2 : ((n : Int) * 8 / 2 ^ (8 * j)) = ((n * 8 / 2 ^ (8 * j) : Nat) : Int) := by
    rw [Int.natCast_ediv, Int.natCast_mul, Int.natCast_pow]; rfl
  rw [h2]
  generalize n * 8 / 2 ^ (8 * j) = z
  omega
theorem sl_blk {w : World} {g : Nat} {t : TypeId} {l : List UInt8} (h : Blk w g t (l.map u1).toArray) : Rd.u8.Sl w (some ⟨g, 0, none⟩) l.length l :=
  ⟨rfl, fun _ => ⟨g, 0, rfl, fun i hi => ⟨_, rfl, fun j u hu => by
    obtain rfl : j = 0 := by have := (List.getElem?_eq_some_iff.1 hu).1; simp at this; exact this
    have h2 := h.cell i (v := u1 l[i]) (by simp [hi])
    have e : u = u1 l[i] := by simpa [u1] using hu.symm
    rw [e]
    simpa [Rd.u8] using h2⟩⟩⟩
theorem HashB.exc {w w' : World} {g lo hi : Nat} {m : List UInt8} {all : Nat} (h : HashB w g m all) (e : Exc lo hi w w') (hd : g < lo ∨ hi ≤ g) : HashB w' g m all := by
  obtain ⟨r, h1, B⟩ := h
  exact ⟨r, h1, e.blk B hd⟩
theorem hashL_state (s : H8) (rest : List UInt8) (a b i : Nat) (hi : i < 8) : (hashL s rest a b).toArray[i]? = some (u3 (s.at_ i)) := by
  have h := h8A_at s i hi
  unfold hashL
  rw [List.getElem?_toArray, List.getElem?_append_left (by show i < (h8L s).length; exact hi), ← List.getElem?_toArray]
  exact h
theorem macA_one (l : List UInt8) : (macA l).all (·.oneCell') = true := by
  unfold macA mb
  simp [Value.oneCell']
theorem byte_val (x : UInt32) (k : Nat) (hk : k ≤ 3) : ((x.toNat : Int) / 2 ^ (24 - 8 * k) % 256) = ((UInt8.ofNat (x.toNat / 256 ^ (3 - k))).toNat : Int) := by
  rw [UInt8.toNat_ofNat']
  have e : (256 : Nat) ^ (3 - k) = 2 ^ (24 - 8 * k) := by rw [show 24 - 8 * k = 8 * (3 - k) by omega, Nat.pow_mul]
  rw [e]
  have h2 : ((x.toNat : Int) / 2 ^ (24 - 8 * k)) = ((x.toNat / 2 ^ (24 - 8 * k) : Nat) : Int) := by
    rw [Int.natCast_ediv, Int.natCast_pow]; rfl
  rw [h2]
  generalize x.toNat / 2 ^ (24 - 8 * k) = z
  omega
theorem macA_map (l : List UInt8) (h : l.length = 32) : (l.map u1).toArray = macA l := by
  apply Array.ext
  · simp [h, macA_size]
  · intro i h1 h2
    have hi : i < 32 := by simpa [h] using h1
    have := macA_at l i hi
    rw [Array.getElem?_eq_getElem h2] at this
    rw [Option.some.inj this]
    simp [mb, u1, List.getD, show i < l.length by omega]
theorem pad_eq (m : List UInt8) (n : Nat) (h : m.length = n) : m ++ [128] ++ List.replicate (padZ n) 0 ++ len8 n = padOf m := by
  subst h
  unfold padOf
  simp [List.append_assoc]
set_option maxHeartbeats 9000000 in
set_option maxRecDepth 100000 in
theorem hsum_any (w : World) (g : Nat) (m : List UInt8) (hK : KAt w) (hg : 1 < g) (hH : HashB w g m m.length) (hn : m.length ≤ 100000000000) :
    Calls Tryd.prog 79 #[.pointer (some ⟨g, 0, none⟩)] w fun e w' => e = .returned (.agg (macA (shaB m))) ∧ Ext w w' := by
  obtain ⟨rest, hW, B⟩ := hH
  have hr := hW.1
  obtain ⟨W, hWe⟩ : ∃ z, w.alloc (.cells #[.int .u8 0, .int .u8 0, .int .u8 0, .int .u8 0, .int .u8 0, .int .u8 0, .int .u8 0, .int .u8 0, .int .u8 0, .int .u8 0, .int .u8 0, .int .u8 0, .int .u8 0, .int .u8 0, .int .u8 0, .int .u8 0, .int .u8 0, .int .u8 0, .int .u8 0, .int .u8 0, .int .u8 0, .int .u8 0, .int .u8 0, .int .u8 0, .int .u8 0, .int .u8 0, .int .u8 0, .int .u8 0, .int .u8 0, .int .u8 0, .int .u8 0, .int .u8 0] 25) = z := ⟨_, rfl⟩
  have eW : Ext w W := by rw [← hWe]; exact (Ext.refl _).alloc _
  have B0 : Blk W w.heap.size 25 #[.int .u8 0, .int .u8 0, .int .u8 0, .int .u8 0, .int .u8 0, .int .u8 0, .int .u8 0, .int .u8 0, .int .u8 0, .int .u8 0, .int .u8 0, .int .u8 0, .int .u8 0, .int .u8 0, .int .u8 0, .int .u8 0, .int .u8 0, .int .u8 0, .int .u8 0, .int .u8 0, .int .u8 0, .int .u8 0, .int .u8 0, .int .u8 0, .int .u8 0, .int .u8 0, .int .u8 0, .int .u8 0, .int .u8 0, .int .u8 0, .int .u8 0, .int .u8 0] := by rw [← hWe]; exact Blk.new _ _ _
  have ld := hash_whole hr (B.ext eW)
  obtain ⟨U, hst, BU, eU⟩ := hash_box W (s := absS m) (rest := rest) (a := m.length % 64) (b := m.length) hr
  have hHU : HashB U W.heap.size m m.length := ⟨rest, hW, BU⟩
  obtain ⟨C, hC⟩ : ∃ C, (hashL (absS m) rest (m.length % 64) m.length).toArray = C := ⟨_, rfl⟩
  have hC73 : C[73]? = some (.int .u64 (m.length : Int)) := by rw [← hC]; exact hashL_all _ rest _ _ hr
  rw [hC] at ld hst
  have BgC : Blk U g 123 C := by rw [← hC]; exact (B.ext eW).ext eU
  have hgW : g < W.heap.size := (B.ext eW).lt
  have hpW : w.heap.size < W.heap.size := B0.lt
  have hKU := (hK.ext eW).ext eU
  have hqU : W.heap.size < U.heap.size := BU.lt
  have hkq : 1 < W.heap.size := Nat.lt_trans hg hgW
  clear BU
  have eWU := eW.trans eU
  have B0 := B0.ext eU
  have BgU := BgC
  clear hK hC B BgC
  go_enter Tryd.func79, Tryd.ntmps79
  go_upto_region 1 with fail
  try rw [hWe]
  refine wp_region_lit ?_
  iterate 2 (first | (refine pl_off (a' := ?_) rfl (by rfl) ?_ ?_; rotate_left 1; (· simp only [Act.put, List.setIfInBounds_toArray, List.set_cons_zero, List.set_cons_succ]; rfl)) | (refine pl_y (v := ?_) (a' := ?_) rfl (by rfl) ?_ ?_ ?_; rotate_left 2; (· go_simp; with_reducible rfl); (· simp only [Act.put, List.setIfInBounds_toArray, List.set_cons_zero, List.set_cons_succ]; rfl)))
  refine pl_y (v := ?_) (a' := ?_) rfl (by rfl) ?_ ?_ ?_
  rotate_left 2
  · (refine (run_op_load rfl ?_ (ld)).trans ?_; (· rfl); (· with_reducible rfl))
  · simp only [Act.put, List.setIfInBounds_toArray, List.set_cons_zero, List.set_cons_succ]; rfl
  refine pl_v (v := ?_) (w1 := ?_) (a' := ?_) rfl (by rfl) ?_ ?_ ?_
  rotate_left 3
  · go_simp; refine ⟨?_, ?_⟩ <;> with_reducible rfl
  · simp only [Act.put, List.setIfInBounds_toArray, List.set_cons_zero, List.set_cons_succ]; rfl
  refine pl_store (by rfl) rfl (run_op_store rfl ?_ ?_ hst) ?_
  · rfl
  · rfl
  refine wpList_nil ?_
  clear ld hst hWe
  obtain ⟨q, hq⟩ : ∃ q, W.heap.size = q := ⟨_, rfl⟩
  have hWq := Nat.le_of_eq hq
  rw [hq] at hHU hgW hpW hqU hkq ⊢
  clear hq
  go_upto_region 2 with fail
  have eV : Ext U (U.alloc (.cells #[.int .u8 128] 5)) := (Ext.refl _).alloc _
  have D := blk_one8 (x := 128) (Blk.new U 5 #[.int .u8 128])
  have hw1 := write_any _ q m [128] m.length (some ⟨U.heap.size, 0, none⟩) 1 (hKU.ext eV) hkq (hHU.ext eV) D (Nat.le_refl _) (fun p hp => by cases hp; show U.heap.size ≠ q; omega) (by rw [List.length_singleton]; omega)
  rw [List.length_singleton] at hw1
  obtain ⟨n, hmn⟩ : ∃ n, m.length = n := ⟨_, rfl⟩
  rw [hmn] at hw1 hn hC73
  have HN := Lib.hid hmn
  clear hmn hHU D
  refine wp_region_lit ?_
  refine pl_v (v := ?_) (w1 := ?_) (a' := ?_) rfl (by rfl) ?_ ?_ ?_
  rotate_left 3
  · go_simp; refine ⟨?_, ?_⟩ <;> with_reducible rfl
  · simp only [Act.put, List.setIfInBounds_toArray, List.set_cons_zero, List.set_cons_succ]; rfl
  refine pl_call (args := ?_) Tryd.func78 (by kernel_rfl) rfl (by rfl) rfl rfl ?_ ?_
  rotate_left 1
  · go_simp; with_reducible rfl
  (with_reducible refine (hw1).mono ?_)
  rintro e w2 ⟨rfl, hH2, hX2⟩
  refine ⟨_, _, rfl, (by simp only [Act.put, List.setIfInBounds_toArray, List.set_cons_zero, List.set_cons_succ]; rfl), ?_⟩
  refine wpList_nil ?_
  have hX2' : Exc q (q + 1) U w2 := (Ext.exc eV).trans hX2
  have e2 : Ext W w2 := Exc.ext eU hX2' (by omega)
  have hK2 := hKU.exc hX2' hkq
  have B0 := hX2'.blk B0 (.inl hpW)
  have Bg := hX2'.blk BgU (.inl hgW)
  have hl2 : (m ++ [128]).length % 64 = (n + 1) % 64 := by rw [List.length_append, HN.out]; rfl
  have c72 := hH2.have_
  rw [hl2] at c72
  have HL2 := Lib.hid hl2
  clear hw1 eV hX2 hX2' hKU BgU hl2
  obtain ⟨v, hv⟩ : ∃ v, (n + 1) % 64 = v := ⟨_, rfl⟩
  have hv64 : v < 64 := by omega
  rw [hv] at c72
  have HVn := Lib.hid hv
  clear hv
  by_cases h56 : 56 < v
  · have a1 : IntKind.i64.wrap (64 - (v : Int)) = ((64 - v : Nat) : Int) := by rw [IntWalk.i64_in _ (by omega)]; omega
    go_upto_region 4 with fail
    obtain ⟨w34, hmk, hS3, e3⟩ := make_zeros (64 - v) (by omega) w2
    have hw3 := write_any w34 q _ (List.replicate (64 - v) 0) _ (some ⟨(w2).heap.size, 0, none⟩) (64 - v) (hK2.ext e3) hkq (hH2.ext e3) (by rw [List.length_replicate]; exact hS3) (by rw [List.length_replicate]; exact Nat.le_refl _) (fun p hp => by cases hp; show (w2).heap.size ≠ q; have := hH2.lt; omega) (by rw [List.length_replicate]; omega)
    rw [List.length_replicate] at hw3
    clear hS3
    refine wp_region_lit ?_
    iterate 3 (first | (refine pl_off (a' := ?_) rfl (by rfl) ?_ ?_; rotate_left 1; (· simp only [Act.put, List.setIfInBounds_toArray, List.set_cons_zero, List.set_cons_succ]; rfl)) | (refine pl_y (v := ?_) (a' := ?_) rfl (by rfl) ?_ ?_ ?_; rotate_left 2; (· go_simp; with_reducible rfl); (· simp only [Act.put, List.setIfInBounds_toArray, List.set_cons_zero, List.set_cons_succ]; rfl)))
    refine pl_v (a' := ?_) rfl (by rfl) (run_op_make rfl (by rfl) (by rfl) hmk) ?_ ?_
    rotate_left 1
    · simp only [Act.put, List.setIfInBounds_toArray, List.set_cons_zero, List.set_cons_succ]; rfl
    refine pl_call (args := ?_) Tryd.func78 (by kernel_rfl) rfl (by rfl) rfl rfl ?_ ?_
    rotate_left 1
    · go_simp; with_reducible rfl
    (with_reducible refine (hw3).mono ?_)
    rintro e w4 ⟨rfl, hH4, hX3⟩
    refine ⟨_, _, rfl, (by simp only [Act.put, List.setIfInBounds_toArray, List.set_cons_zero, List.set_cons_succ]; rfl), ?_⟩
    refine wpList_nil ?_
    have hX4 : Exc q (q + 1) w2 w4 := (Ext.exc e3).trans hX3
    have hK4 := hK2.exc hX4 hkq
    have e4 : Ext W w4 := Exc.ext e2 hX4 hWq
    have B0 := hX4.blk B0 (.inl hpW)
    have Bg := hX4.blk Bg (.inl hgW)
    clear hmk hw3 hX3 e3
    clear a1 c72
    have c72 := hH4.have_
    have hz4 : (m ++ [128] ++ List.replicate (64 - v) (0 : UInt8)).length % 64 = 0 := by
      have h1 := HL2.out
      have h2 := HVn.out
      rw [List.length_append, List.length_replicate]
      omega
    rw [hz4] at c72
    clear hz4
    have a1 : IntKind.i64.wrap (56 - ((0 : Nat) : Int)) = ((56 : Nat) : Int) := by rw [IntWalk.i64_in _ (by omega)]; omega
    go_upto_region 5 with fail
    obtain ⟨w35, hmk, hS3, e3⟩ := make_zeros 56 (by omega) w4
    have hw3 := write_any w35 q _ (List.replicate 56 0) _ (some ⟨(w4).heap.size, 0, none⟩) 56 (hK4.ext e3) hkq (hH4.ext e3) (by rw [List.length_replicate]; exact hS3) (by rw [List.length_replicate]; exact Nat.le_refl _) (fun p hp => by cases hp; show (w4).heap.size ≠ q; have := hH4.lt; omega) (by rw [List.length_replicate]; omega)
    rw [List.length_replicate] at hw3
    clear hS3
    refine wp_region_lit ?_
    iterate 3 (first | (refine pl_off (a' := ?_) rfl (by rfl) ?_ ?_; rotate_left 1; (· simp only [Act.put, List.setIfInBounds_toArray, List.set_cons_zero, List.set_cons_succ]; rfl)) | (refine pl_y (v := ?_) (a' := ?_) rfl (by rfl) ?_ ?_ ?_; rotate_left 2; (· go_simp; with_reducible rfl); (· simp only [Act.put, List.setIfInBounds_toArray, List.set_cons_zero, List.set_cons_succ]; rfl)))
    refine pl_v (a' := ?_) rfl (by rfl) (run_op_make rfl (by rfl) (by rfl) hmk) ?_ ?_
    rotate_left 1
    · simp only [Act.put, List.setIfInBounds_toArray, List.set_cons_zero, List.set_cons_succ]; rfl
    refine pl_call (args := ?_) Tryd.func78 (by kernel_rfl) rfl (by rfl) rfl rfl ?_ ?_
    rotate_left 1
    · go_simp; with_reducible rfl
    (with_reducible refine (hw3).mono ?_)
    rintro e w5 ⟨rfl, hH5, hX3⟩
    refine ⟨_, _, rfl, (by simp only [Act.put, List.setIfInBounds_toArray, List.set_cons_zero, List.set_cons_succ]; rfl), ?_⟩
    refine wpList_nil ?_
    have hX5 : Exc q (q + 1) w4 w5 := (Ext.exc e3).trans hX3
    have hK5 := hK4.exc hX5 hkq
    have e5 : Ext W w5 := Exc.ext e4 hX5 hWq
    have B0 := hX5.blk B0 (.inl hpW)
    have Bg := hX5.blk Bg (.inl hgW)
    clear hmk hw3 hX3 e3
    have hM : m ++ [128] ++ List.replicate (64 - v) 0 ++ List.replicate 56 0 = m ++ [128] ++ List.replicate (padZ n) 0 := by
      rw [List.append_assoc (m ++ [128]), List.replicate_append_replicate, ← padZ_hi n (by rw [HVn.out]; exact h56), HVn.out]
    rw [hM] at hH5
    clear hM a1 c72
    go_upto_region 6 with fail
    have eL : Ext w5 (w5.alloc (.cells #[.int .u8 0, .int .u8 0, .int .u8 0, .int .u8 0, .int .u8 0, .int .u8 0, .int .u8 0, .int .u8 0] 126)) := (Ext.refl _).alloc _
    have BL : Blk (w5.alloc (.cells #[.int .u8 0, .int .u8 0, .int .u8 0, .int .u8 0, .int .u8 0, .int .u8 0, .int .u8 0, .int .u8 0] 126)) w5.heap.size 126 ((lenTo n 0).map u1).toArray := Blk.new w5 126 _
    have hH6 := hH5.ext eL
    have hK6 := hK5.ext eL
    have e6 := e5.trans eL
    have B0 := B0.ext eL
    have Bg := Bg.ext eL
    have hq5 : q < w5.heap.size := hH5.lt
    have eW0 := eW
    clear hH2 hK2 e2 hH5 hK5 e5 eL HL2 HVn eWU eU eW
    go_upto_region 7 with fail
    generalize w5.alloc (.cells #[.int .u8 0, .int .u8 0, .int .u8 0, .int .u8 0, .int .u8 0, .int .u8 0, .int .u8 0, .int .u8 0] 126) = w6 at *
    generalize w5.heap.size = r at *
    go_wp2_with fail
    go_loopw [26] (fun i wr => ∃ j : Nat, j ≤ 8 ∧ i = .int .i64 j ∧ Blk wr r 126 ((lenTo n j).map u1).toArray ∧ Blk wr w.heap.size 25 #[.int .u8 0, .int .u8 0, .int .u8 0, .int .u8 0, .int .u8 0, .int .u8 0, .int .u8 0, .int .u8 0, .int .u8 0, .int .u8 0, .int .u8 0, .int .u8 0, .int .u8 0, .int .u8 0, .int .u8 0, .int .u8 0, .int .u8 0, .int .u8 0, .int .u8 0, .int .u8 0, .int .u8 0, .int .u8 0, .int .u8 0, .int .u8 0, .int .u8 0, .int .u8 0, .int .u8 0, .int .u8 0, .int .u8 0, .int .u8 0, .int .u8 0, .int .u8 0] ∧ Blk wr g 123 C ∧ Exc r (r + 1) w6 wr) (fun i _ => 8 - (intOf i).toNat)
    case atStart => exact ⟨0, by omega, rfl, BL, B0, Bg, Exc.refl _ _ _⟩
    case round =>
      clear BL B0 Bg
      obtain ⟨j, hj, rfl, BL, B0, Bg, hX6⟩ := hrel
      have y73 := Bg.cell 73 hC73
      by_cases hlt : j < 8
      · obtain ⟨z, hz⟩ : ∃ z, ((lenTo n j).map u1).toArray[7 - j]? = some z := ⟨_, Array.getElem?_eq_getElem (by simp [lenTo]; omega)⟩
        have z0 := BL.cell (7 - j) hz
        have f0 := BL.frozen (7 - j)
        have i1 : IntKind.i64.wrap (7 - (j : Int)) = ((7 - j : Nat) : Int) := by rw [IntWalk.i64_in _ (by omega)]; omega
        have i2 : IntKind.i64.wrap (8 * (j : Int)) = ((8 * j : Nat) : Int) := by rw [IntWalk.i64_in _ (by omega)]; omega
        have i3 : (((7 - j : Nat) : Int)) < 8 := by omega
        clear hz
        have vL := len_val n j hn
        have hset : ((lenTo n j).map u1).toArray.setIfInBounds (7 - j) (u1 (UInt8.ofNat ((n * 8 % 18446744073709551616) / 256 ^ j))) = ((lenTo n (j + 1)).map u1).toArray := by
          rw [List.setIfInBounds_toArray, ← List.map_set, lenTo_set n j hlt]
        generalize UInt8.ofNat ((n * 8 % 18446744073709551616) / 256 ^ j) = xb at *
        unfold u1 at hset
        have HSet := Lib.hid hset
        clear hset
        go_upto_region 11 with fail
        try rw [vL]
        have BL' : Blk (wr.setCell ⟨r, 7 - j, none⟩ (.int .u8 (xb.toNat : Int))) r 126 ((lenTo n (j + 1)).map u1).toArray := by rw [show u1 = fun x => Value.int .u8 (x.toNat : Int) from rfl, ← HSet.out]; exact BL.set_ (7 - j) _
        have hXn : Exc r (r + 1) wr (wr.setCell ⟨r, 7 - j, none⟩ (.int .u8 (xb.toNat : Int))) := set_exc _ _ _ _
        have B0' := hXn.blk B0 (.inl (by omega))
        have Bg' := hXn.blk Bg (.inl (by omega))
        have hX' := hX6.trans hXn
        clear vL z0 f0 i1 i2 i3 BL B0 Bg hXn hX6 y73 HSet
        generalize wr.setCell ⟨r, 7 - j, none⟩ (.int .u8 (xb.toNat : Int)) = wn at *
        go_wp2_with fail
        go_roundw
        case rel => exact ⟨j + 1, by omega, by go_num, BL', B0', Bg', hX'⟩
        case measure => simp [intOf]; omega
      · obtain rfl : j = 8 := by omega
        rw [lenTo_all] at BL
        have hH7 := hH6.exc hX6 (.inl hq5)
        have hK7 := hK6.exc hX6 (Nat.lt_trans hkq hq5)
        have e7 : Ext W wr := Exc.ext e6 hX6 (by omega)
        have hS8 := sl_blk BL
        have hw8 := write_any wr q _ (len8 n) _ (some ⟨r, 0, none⟩) 8 hK7 hkq hH7 hS8 (by rw [len8_len]; exact Nat.le_refl _) (fun p hp => by cases hp; show r ≠ q; omega) (by rw [len8_len]; omega)
        rw [pad_eq m n HN.out, len8_len] at hw8
        clear y73 hS8 hH7 BL hC73 Bg hX6
        go_upto_region 12 with fail
        go_upto_region 13 with (go_at_call 78; (with_reducible refine hw8.mono ?_); rintro e w8 ⟨rfl, hH8, hX8⟩)
        have e8 : Ext W w8 := Exc.ext e7 hX8 hWq
        have hq8 : q < w8.heap.size := hH8.lt
        have B0 := hX8.blk B0 (.inl hpW)
        obtain ⟨rst, hW8, B8⟩ := hH8
        generalize hal2 : (_ : Nat) + 8 = al2 at B8
        clear hal2
        clear hw8 hX8 hK7 e7 hK6 hH6 e6
        obtain ⟨S, hS⟩ : ∃ S, absS (padOf m) = S := ⟨_, rfl⟩
        rw [hS] at B8
        have HSS := Lib.hid hS
        clear hS
        have eO : Ext w8 (w8.alloc (.cells #[.int .u8 0, .int .u8 0, .int .u8 0, .int .u8 0, .int .u8 0, .int .u8 0, .int .u8 0, .int .u8 0, .int .u8 0, .int .u8 0, .int .u8 0, .int .u8 0, .int .u8 0, .int .u8 0, .int .u8 0, .int .u8 0, .int .u8 0, .int .u8 0, .int .u8 0, .int .u8 0, .int .u8 0, .int .u8 0, .int .u8 0, .int .u8 0, .int .u8 0, .int .u8 0, .int .u8 0, .int .u8 0, .int .u8 0, .int .u8 0, .int .u8 0, .int .u8 0] 25)) := (Ext.refl _).alloc _
        have BO : Blk (w8.alloc (.cells #[.int .u8 0, .int .u8 0, .int .u8 0, .int .u8 0, .int .u8 0, .int .u8 0, .int .u8 0, .int .u8 0, .int .u8 0, .int .u8 0, .int .u8 0, .int .u8 0, .int .u8 0, .int .u8 0, .int .u8 0, .int .u8 0, .int .u8 0, .int .u8 0, .int .u8 0, .int .u8 0, .int .u8 0, .int .u8 0, .int .u8 0, .int .u8 0, .int .u8 0, .int .u8 0, .int .u8 0, .int .u8 0, .int .u8 0, .int .u8 0, .int .u8 0, .int .u8 0] 25)) w8.heap.size 25 ((outTo S 0).map u1).toArray := by rw [outTo_zero]; exact Blk.new w8 25 _
        have B0 := B0.ext eO
        have B8 := B8.ext eO
        have e9 := e8.trans eO
        clear eO e8
        go_upto_region 14 with fail
        generalize w8.alloc (.cells #[.int .u8 0, .int .u8 0, .int .u8 0, .int .u8 0, .int .u8 0, .int .u8 0, .int .u8 0, .int .u8 0, .int .u8 0, .int .u8 0, .int .u8 0, .int .u8 0, .int .u8 0, .int .u8 0, .int .u8 0, .int .u8 0, .int .u8 0, .int .u8 0, .int .u8 0, .int .u8 0, .int .u8 0, .int .u8 0, .int .u8 0, .int .u8 0, .int .u8 0, .int .u8 0, .int .u8 0, .int .u8 0, .int .u8 0, .int .u8 0, .int .u8 0, .int .u8 0] 25) = w9 at *
        generalize w8.heap.size = o at *
        go_wp2_with fail
        go_loopw [44] (fun i wr => ∃ j : Nat, j ≤ 32 ∧ i = .int .i64 j ∧ Blk wr o 25 ((outTo S j).map u1).toArray ∧ Blk wr w.heap.size 25 #[.int .u8 0, .int .u8 0, .int .u8 0, .int .u8 0, .int .u8 0, .int .u8 0, .int .u8 0, .int .u8 0, .int .u8 0, .int .u8 0, .int .u8 0, .int .u8 0, .int .u8 0, .int .u8 0, .int .u8 0, .int .u8 0, .int .u8 0, .int .u8 0, .int .u8 0, .int .u8 0, .int .u8 0, .int .u8 0, .int .u8 0, .int .u8 0, .int .u8 0, .int .u8 0, .int .u8 0, .int .u8 0, .int .u8 0, .int .u8 0, .int .u8 0, .int .u8 0] ∧ Blk wr q 123 (hashL S rst ((padOf m).length % 64) al2).toArray ∧ Exc o (o + 1) w9 wr) (fun i _ => 32 - (intOf i).toNat)
        case atStart => exact ⟨0, by omega, rfl, BO, B0, B8, Exc.refl _ _ _⟩
        case round =>
          clear BO B0 B8
          obtain ⟨j, hj, rfl, BO, B0, B8, hX9⟩ := hrel
          by_cases hlt : j < 32
          · have ys := B8.cell (j / 4) (hashL_state S rst _ _ (j / 4) (by omega))
            obtain ⟨z, hz⟩ : ∃ z, ((outTo S j).map u1).toArray[j]? = some z := ⟨_, Array.getElem?_eq_getElem (by simp [outTo]; omega)⟩
            have z0 := BO.cell j hz
            have f0 := BO.frozen j
            unfold u3 at ys
            have i1 : IntKind.i64.wrap (8 * ((j : Int) % 4)) = 8 * ((j : Int) % 4) := IntWalk.i64_in _ (by omega)
            have i2 : IntKind.i64.wrap (24 - 8 * ((j : Int) % 4)) = 24 - 8 * ((j : Int) % 4) := IntWalk.i64_in _ (by omega)
            have i3 : (24 - 8 * ((j : Int) % 4)).toNat = 24 - 8 * (j % 4) := by omega
            have i4 : ((j : Int) / 4).toNat = j / 4 := by omega
            have i5 : (j : Int) / 4 < 8 := by omega
            have i6 : ¬ 24 - 8 * ((j : Int) % 4) < 0 := by omega
            have vB := byte_val (S.at_ (j / 4)) (j % 4) (by omega)
            have hset : ((outTo S j).map u1).toArray.setIfInBounds j (u1 (UInt8.ofNat ((S.at_ (j / 4)).toNat / 256 ^ (3 - j % 4)))) = ((outTo S (j + 1)).map u1).toArray := by
              rw [List.setIfInBounds_toArray, ← List.map_set, outTo_set S j hlt]
            generalize UInt8.ofNat ((S.at_ (j / 4)).toNat / 256 ^ (3 - j % 4)) = xb at *
            unfold u1 at hset
            have HSet := Lib.hid hset
            clear hz hset
            go_upto_region 18 with fail
            try rw [vB]
            have BO' : Blk (wr.setCell ⟨o, j, none⟩ (.int .u8 (xb.toNat : Int))) o 25 ((outTo S (j + 1)).map u1).toArray := by rw [show u1 = fun x => Value.int .u8 (x.toNat : Int) from rfl, ← HSet.out]; exact BO.set_ j _
            have hXn : Exc o (o + 1) wr (wr.setCell ⟨o, j, none⟩ (.int .u8 (xb.toNat : Int))) := set_exc _ _ _ _
            have B0' := hXn.blk B0 (.inl (by omega))
            have B8' := hXn.blk B8 (.inl hq8)
            have hX' := hX9.trans hXn
            clear vB z0 f0 i1 i2 i3 i4 i5 i6 BO B0 B8 hXn hX9 ys HSet
            generalize wr.setCell ⟨o, j, none⟩ (.int .u8 (xb.toNat : Int)) = wn at *
            go_wp2_with fail
            go_roundw
            case rel => exact ⟨j + 1, by omega, by go_num, BO', B0', B8', hX'⟩
            case measure => simp [intOf]; omega
          · obtain rfl : j = 32 := by omega
            have hfin : ((outTo S 32).map u1).toArray = macA (shaB m) := by
              rw [outTo_all, ← HSS.out]; exact macA_map _ (shaB_len m)
            rw [hfin] at BO
            have hsz : (macA (shaB m)).size = 32 := macA_size _
            have hone : (macA (shaB m)).all (·.oneCell') = true := macA_one _
            have ld := load_whole BO 25 _ Tryd.underlying25 rfl (by rw [hsz]; kernel_rfl)
            obtain ⟨WR, hst, BR, hXR⟩ := over_row (C := macA (shaB m)) B0 rfl (by rw [hsz]; kernel_rfl) hone
            have hER : Ext w WR := Exc.ext (eW0.trans (Exc.ext e9 hX9 (by omega))) hXR (Nat.le_refl _)
            generalize hres : macA (shaB m) = R at *
            clear BO B0 B8 hXR hX9
            go_upto_region 19 with fail
            refine wp_region_lit ?_
            refine pl_y (v := ?_) (a' := ?_) rfl (by rfl) ?_ ?_ ?_
            rotate_left 2
            · (refine (run_op_load rfl ?_ (ld)).trans ?_; (· rfl); (· with_reducible rfl))
            · simp only [Act.put, List.setIfInBounds_toArray, List.set_cons_zero, List.set_cons_succ]; rfl
            refine pl_store (by rfl) rfl (run_op_store rfl ?_ ?_ hst) ?_
            · rfl
            · rfl
            refine wpList_nil ?_
            go_wp2_with fail
            refine bodyPost_ret (v := .agg R) (results_cell_row (P := Tryd.prog) (fn := Tryd.f79) rfl _ WR w.heap.size _ _ _ _ rfl BR Tryd.underlying25 rfl (by rw [hsz]; kernel_rfl)) rfl ?_
            exact ⟨by rw [hres], hER⟩
  · have a1 : IntKind.i64.wrap (56 - (v : Int)) = ((56 - v : Nat) : Int) := by rw [IntWalk.i64_in _ (by omega)]; omega
    go_upto_region 5 with fail
    obtain ⟨w35, hmk, hS3, e3⟩ := make_zeros (56 - v) (by omega) w2
    have hw3 := write_any w35 q _ (List.replicate (56 - v) 0) _ (some ⟨(w2).heap.size, 0, none⟩) (56 - v) (hK2.ext e3) hkq (hH2.ext e3) (by rw [List.length_replicate]; exact hS3) (by rw [List.length_replicate]; exact Nat.le_refl _) (fun p hp => by cases hp; show (w2).heap.size ≠ q; have := hH2.lt; omega) (by rw [List.length_replicate]; omega)
    rw [List.length_replicate] at hw3
    clear hS3
    refine wp_region_lit ?_
    iterate 3 (first | (refine pl_off (a' := ?_) rfl (by rfl) ?_ ?_; rotate_left 1; (· simp only [Act.put, List.setIfInBounds_toArray, List.set_cons_zero, List.set_cons_succ]; rfl)) | (refine pl_y (v := ?_) (a' := ?_) rfl (by rfl) ?_ ?_ ?_; rotate_left 2; (· go_simp; with_reducible rfl); (· simp only [Act.put, List.setIfInBounds_toArray, List.set_cons_zero, List.set_cons_succ]; rfl)))
    refine pl_v (a' := ?_) rfl (by rfl) (run_op_make rfl (by rfl) (by rfl) hmk) ?_ ?_
    rotate_left 1
    · simp only [Act.put, List.setIfInBounds_toArray, List.set_cons_zero, List.set_cons_succ]; rfl
    refine pl_call (args := ?_) Tryd.func78 (by kernel_rfl) rfl (by rfl) rfl rfl ?_ ?_
    rotate_left 1
    · go_simp; with_reducible rfl
    (with_reducible refine (hw3).mono ?_)
    rintro e w5 ⟨rfl, hH5, hX3⟩
    refine ⟨_, _, rfl, (by simp only [Act.put, List.setIfInBounds_toArray, List.set_cons_zero, List.set_cons_succ]; rfl), ?_⟩
    refine wpList_nil ?_
    have hX5 : Exc q (q + 1) w2 w5 := (Ext.exc e3).trans hX3
    have hK5 := hK2.exc hX5 hkq
    have e5 : Ext W w5 := Exc.ext e2 hX5 hWq
    have B0 := hX5.blk B0 (.inl hpW)
    have Bg := hX5.blk Bg (.inl hgW)
    clear hmk hw3 hX3 e3
    have hM : m ++ [128] ++ List.replicate (56 - v) 0 = m ++ [128] ++ List.replicate (padZ n) 0 := by
      rw [← padZ_lo n (by rw [HVn.out]; exact h56), HVn.out]
    rw [hM] at hH5
    clear hM a1 c72
    go_upto_region 6 with fail
    have eL : Ext w5 (w5.alloc (.cells #[.int .u8 0, .int .u8 0, .int .u8 0, .int .u8 0, .int .u8 0, .int .u8 0, .int .u8 0, .int .u8 0] 126)) := (Ext.refl _).alloc _
    have BL : Blk (w5.alloc (.cells #[.int .u8 0, .int .u8 0, .int .u8 0, .int .u8 0, .int .u8 0, .int .u8 0, .int .u8 0, .int .u8 0] 126)) w5.heap.size 126 ((lenTo n 0).map u1).toArray := Blk.new w5 126 _
    have hH6 := hH5.ext eL
    have hK6 := hK5.ext eL
    have e6 := e5.trans eL
    have B0 := B0.ext eL
    have Bg := Bg.ext eL
    have hq5 : q < w5.heap.size := hH5.lt
    have eW0 := eW
    clear hH2 hK2 e2 hH5 hK5 e5 eL HL2 HVn eWU eU eW
    go_upto_region 7 with fail
    generalize w5.alloc (.cells #[.int .u8 0, .int .u8 0, .int .u8 0, .int .u8 0, .int .u8 0, .int .u8 0, .int .u8 0, .int .u8 0] 126) = w6 at *
    generalize w5.heap.size = r at *
    go_wp2_with fail
    go_loopw [26] (fun i wr => ∃ j : Nat, j ≤ 8 ∧ i = .int .i64 j ∧ Blk wr r 126 ((lenTo n j).map u1).toArray ∧ Blk wr w.heap.size 25 #[.int .u8 0, .int .u8 0, .int .u8 0, .int .u8 0, .int .u8 0, .int .u8 0, .int .u8 0, .int .u8 0, .int .u8 0, .int .u8 0, .int .u8 0, .int .u8 0, .int .u8 0, .int .u8 0, .int .u8 0, .int .u8 0, .int .u8 0, .int .u8 0, .int .u8 0, .int .u8 0, .int .u8 0, .int .u8 0, .int .u8 0, .int .u8 0, .int .u8 0, .int .u8 0, .int .u8 0, .int .u8 0, .int .u8 0, .int .u8 0, .int .u8 0, .int .u8 0] ∧ Blk wr g 123 C ∧ Exc r (r + 1) w6 wr) (fun i _ => 8 - (intOf i).toNat)
    case atStart => exact ⟨0, by omega, rfl, BL, B0, Bg, Exc.refl _ _ _⟩
    case round =>
      clear BL B0 Bg
      obtain ⟨j, hj, rfl, BL, B0, Bg, hX6⟩ := hrel
      have y73 := Bg.cell 73 hC73
      by_cases hlt : j < 8
      · obtain ⟨z, hz⟩ : ∃ z, ((lenTo n j).map u1).toArray[7 - j]? = some z := ⟨_, Array.getElem?_eq_getElem (by simp [lenTo]; omega)⟩
        have z0 := BL.cell (7 - j) hz
        have f0 := BL.frozen (7 - j)
        have i1 : IntKind.i64.wrap (7 - (j : Int)) = ((7 - j : Nat) : Int) := by rw [IntWalk.i64_in _ (by omega)]; omega
        have i2 : IntKind.i64.wrap (8 * (j : Int)) = ((8 * j : Nat) : Int) := by rw [IntWalk.i64_in _ (by omega)]; omega
        have i3 : (((7 - j : Nat) : Int)) < 8 := by omega
        clear hz
        have vL := len_val n j hn
        have hset : ((lenTo n j).map u1).toArray.setIfInBounds (7 - j) (u1 (UInt8.ofNat ((n * 8 % 18446744073709551616) / 256 ^ j))) = ((lenTo n (j + 1)).map u1).toArray := by
          rw [List.setIfInBounds_toArray, ← List.map_set, lenTo_set n j hlt]
        generalize UInt8.ofNat ((n * 8 % 18446744073709551616) / 256 ^ j) = xb at *
        unfold u1 at hset
        have HSet := Lib.hid hset
        clear hset
        go_upto_region 11 with fail
        try rw [vL]
        have BL' : Blk (wr.setCell ⟨r, 7 - j, none⟩ (.int .u8 (xb.toNat : Int))) r 126 ((lenTo n (j + 1)).map u1).toArray := by rw [show u1 = fun x => Value.int .u8 (x.toNat : Int) from rfl, ← HSet.out]; exact BL.set_ (7 - j) _
        have hXn : Exc r (r + 1) wr (wr.setCell ⟨r, 7 - j, none⟩ (.int .u8 (xb.toNat : Int))) := set_exc _ _ _ _
        have B0' := hXn.blk B0 (.inl (by omega))
        have Bg' := hXn.blk Bg (.inl (by omega))
        have hX' := hX6.trans hXn
        clear vL z0 f0 i1 i2 i3 BL B0 Bg hXn hX6 y73 HSet
        generalize wr.setCell ⟨r, 7 - j, none⟩ (.int .u8 (xb.toNat : Int)) = wn at *
        go_wp2_with fail
        go_roundw
        case rel => exact ⟨j + 1, by omega, by go_num, BL', B0', Bg', hX'⟩
        case measure => simp [intOf]; omega
      · obtain rfl : j = 8 := by omega
        rw [lenTo_all] at BL
        have hH7 := hH6.exc hX6 (.inl hq5)
        have hK7 := hK6.exc hX6 (Nat.lt_trans hkq hq5)
        have e7 : Ext W wr := Exc.ext e6 hX6 (by omega)
        have hS8 := sl_blk BL
        have hw8 := write_any wr q _ (len8 n) _ (some ⟨r, 0, none⟩) 8 hK7 hkq hH7 hS8 (by rw [len8_len]; exact Nat.le_refl _) (fun p hp => by cases hp; show r ≠ q; omega) (by rw [len8_len]; omega)
        rw [pad_eq m n HN.out, len8_len] at hw8
        clear y73 hS8 hH7 BL hC73 Bg hX6
        go_upto_region 12 with fail
        go_upto_region 13 with (go_at_call 78; (with_reducible refine hw8.mono ?_); rintro e w8 ⟨rfl, hH8, hX8⟩)
        have e8 : Ext W w8 := Exc.ext e7 hX8 hWq
        have hq8 : q < w8.heap.size := hH8.lt
        have B0 := hX8.blk B0 (.inl hpW)
        obtain ⟨rst, hW8, B8⟩ := hH8
        generalize hal2 : (_ : Nat) + 8 = al2 at B8
        clear hal2
        clear hw8 hX8 hK7 e7 hK6 hH6 e6
        obtain ⟨S, hS⟩ : ∃ S, absS (padOf m) = S := ⟨_, rfl⟩
        rw [hS] at B8
        have HSS := Lib.hid hS
        clear hS
        have eO : Ext w8 (w8.alloc (.cells #[.int .u8 0, .int .u8 0, .int .u8 0, .int .u8 0, .int .u8 0, .int .u8 0, .int .u8 0, .int .u8 0, .int .u8 0, .int .u8 0, .int .u8 0, .int .u8 0, .int .u8 0, .int .u8 0, .int .u8 0, .int .u8 0, .int .u8 0, .int .u8 0, .int .u8 0, .int .u8 0, .int .u8 0, .int .u8 0, .int .u8 0, .int .u8 0, .int .u8 0, .int .u8 0, .int .u8 0, .int .u8 0, .int .u8 0, .int .u8 0, .int .u8 0, .int .u8 0] 25)) := (Ext.refl _).alloc _
        have BO : Blk (w8.alloc (.cells #[.int .u8 0, .int .u8 0, .int .u8 0, .int .u8 0, .int .u8 0, .int .u8 0, .int .u8 0, .int .u8 0, .int .u8 0, .int .u8 0, .int .u8 0, .int .u8 0, .int .u8 0, .int .u8 0, .int .u8 0, .int .u8 0, .int .u8 0, .int .u8 0, .int .u8 0, .int .u8 0, .int .u8 0, .int .u8 0, .int .u8 0, .int .u8 0, .int .u8 0, .int .u8 0, .int .u8 0, .int .u8 0, .int .u8 0, .int .u8 0, .int .u8 0, .int .u8 0] 25)) w8.heap.size 25 ((outTo S 0).map u1).toArray := by rw [outTo_zero]; exact Blk.new w8 25 _
        have B0 := B0.ext eO
        have B8 := B8.ext eO
        have e9 := e8.trans eO
        clear eO e8
        go_upto_region 14 with fail
        generalize w8.alloc (.cells #[.int .u8 0, .int .u8 0, .int .u8 0, .int .u8 0, .int .u8 0, .int .u8 0, .int .u8 0, .int .u8 0, .int .u8 0, .int .u8 0, .int .u8 0, .int .u8 0, .int .u8 0, .int .u8 0, .int .u8 0, .int .u8 0, .int .u8 0, .int .u8 0, .int .u8 0, .int .u8 0, .int .u8 0, .int .u8 0, .int .u8 0, .int .u8 0, .int .u8 0, .int .u8 0, .int .u8 0, .int .u8 0, .int .u8 0, .int .u8 0, .int .u8 0, .int .u8 0] 25) = w9 at *
        generalize w8.heap.size = o at *
        go_wp2_with fail
        go_loopw [44] (fun i wr => ∃ j : Nat, j ≤ 32 ∧ i = .int .i64 j ∧ Blk wr o 25 ((outTo S j).map u1).toArray ∧ Blk wr w.heap.size 25 #[.int .u8 0, .int .u8 0, .int .u8 0, .int .u8 0, .int .u8 0, .int .u8 0, .int .u8 0, .int .u8 0, .int .u8 0, .int .u8 0, .int .u8 0, .int .u8 0, .int .u8 0, .int .u8 0, .int .u8 0, .int .u8 0, .int .u8 0, .int .u8 0, .int .u8 0, .int .u8 0, .int .u8 0, .int .u8 0, .int .u8 0, .int .u8 0, .int .u8 0, .int .u8 0, .int .u8 0, .int .u8 0, .int .u8 0, .int .u8 0, .int .u8 0, .int .u8 0] ∧ Blk wr q 123 (hashL S rst ((padOf m).length % 64) al2).toArray ∧ Exc o (o + 1) w9 wr) (fun i _ => 32 - (intOf i).toNat)
        case atStart => exact ⟨0, by omega, rfl, BO, B0, B8, Exc.refl _ _ _⟩
        case round =>
          clear BO B0 B8
          obtain ⟨j, hj, rfl, BO, B0, B8, hX9⟩ := hrel
          by_cases hlt : j < 32
          · have ys := B8.cell (j / 4) (hashL_state S rst _ _ (j / 4) (by omega))
            obtain ⟨z, hz⟩ : ∃ z, ((outTo S j).map u1).toArray[j]? = some z := ⟨_, Array.getElem?_eq_getElem (by simp [outTo]; omega)⟩
            have z0 := BO.cell j hz
            have f0 := BO.frozen j
            unfold u3 at ys
            have i1 : IntKind.i64.wrap (8 * ((j : Int) % 4)) = 8 * ((j : Int) % 4) := IntWalk.i64_in _ (by omega)
            have i2 : IntKind.i64.wrap (24 - 8 * ((j : Int) % 4)) = 24 - 8 * ((j : Int) % 4) := IntWalk.i64_in _ (by omega)
            have i3 : (24 - 8 * ((j : Int) % 4)).toNat = 24 - 8 * (j % 4) := by omega
            have i4 : ((j : Int) / 4).toNat = j / 4 := by omega
            have i5 : (j : Int) / 4 < 8 := by omega
            have i6 : ¬ 24 - 8 * ((j : Int) % 4) < 0 := by omega
            have vB := byte_val (S.at_ (j / 4)) (j % 4) (by omega)
            have hset : ((outTo S j).map u1).toArray.setIfInBounds j (u1 (UInt8.ofNat ((S.at_ (j / 4)).toNat / 256 ^ (3 - j % 4)))) = ((outTo S (j + 1)).map u1).toArray := by
              rw [List.setIfInBounds_toArray, ← List.map_set, outTo_set S j hlt]
            generalize UInt8.ofNat ((S.at_ (j / 4)).toNat / 256 ^ (3 - j % 4)) = xb at *
            unfold u1 at hset
            have HSet := Lib.hid hset
            clear hz hset
            go_upto_region 18 with fail
            try rw [vB]
            have BO' : Blk (wr.setCell ⟨o, j, none⟩ (.int .u8 (xb.toNat : Int))) o 25 ((outTo S (j + 1)).map u1).toArray := by rw [show u1 = fun x => Value.int .u8 (x.toNat : Int) from rfl, ← HSet.out]; exact BO.set_ j _
            have hXn : Exc o (o + 1) wr (wr.setCell ⟨o, j, none⟩ (.int .u8 (xb.toNat : Int))) := set_exc _ _ _ _
            have B0' := hXn.blk B0 (.inl (by omega))
            have B8' := hXn.blk B8 (.inl hq8)
            have hX' := hX9.trans hXn
            clear vB z0 f0 i1 i2 i3 i4 i5 i6 BO B0 B8 hXn hX9 ys HSet
            generalize wr.setCell ⟨o, j, none⟩ (.int .u8 (xb.toNat : Int)) = wn at *
            go_wp2_with fail
            go_roundw
            case rel => exact ⟨j + 1, by omega, by go_num, BO', B0', B8', hX'⟩
            case measure => simp [intOf]; omega
          · obtain rfl : j = 32 := by omega
            have hfin : ((outTo S 32).map u1).toArray = macA (shaB m) := by
              rw [outTo_all, ← HSS.out]; exact macA_map _ (shaB_len m)
            rw [hfin] at BO
            have hsz : (macA (shaB m)).size = 32 := macA_size _
            have hone : (macA (shaB m)).all (·.oneCell') = true := macA_one _
            have ld := load_whole BO 25 _ Tryd.underlying25 rfl (by rw [hsz]; kernel_rfl)
            obtain ⟨WR, hst, BR, hXR⟩ := over_row (C := macA (shaB m)) B0 rfl (by rw [hsz]; kernel_rfl) hone
            have hER : Ext w WR := Exc.ext (eW0.trans (Exc.ext e9 hX9 (by omega))) hXR (Nat.le_refl _)
            generalize hres : macA (shaB m) = R at *
            clear BO B0 B8 hXR hX9
            go_upto_region 19 with fail
            refine wp_region_lit ?_
            refine pl_y (v := ?_) (a' := ?_) rfl (by rfl) ?_ ?_ ?_
            rotate_left 2
            · (refine (run_op_load rfl ?_ (ld)).trans ?_; (· rfl); (· with_reducible rfl))
            · simp only [Act.put, List.setIfInBounds_toArray, List.set_cons_zero, List.set_cons_succ]; rfl
            refine pl_store (by rfl) rfl (run_op_store rfl ?_ ?_ hst) ?_
            · rfl
            · rfl
            refine wpList_nil ?_
            go_wp2_with fail
            refine bodyPost_ret (v := .agg R) (results_cell_row (P := Tryd.prog) (fn := Tryd.f79) rfl _ WR w.heap.size _ _ _ _ rfl BR Tryd.underlying25 rfl (by rw [hsz]; kernel_rfl)) rfl ?_
            exact ⟨by rw [hres], hER⟩
end Go.Proofs.YtjcpgjnogcmalaaDoor

/-! SHA-256 by the program: the sum of bytes. -/
namespace Go.Proofs.YtjcpgjnogcmalaaDoor
set_option linter.unusedVariables false
set_option linter.unusedSimpArgs false
open Go.RowKit
theorem sl_block {w : World} {A : Option Addr} {n : Nat} {xs : List UInt8} (h : Rd.u8.Sl w A n xs) (hn : 0 < n) : ∀ p, A = some p → p.block < w.heap.size := by
  intro p hp
  obtain ⟨b, o, e, hc⟩ := h.2 hn
  rw [e] at hp
  cases hp
  obtain ⟨cs, hK, hcell⟩ := hc 0 (by rw [h.1]; exact hn)
  have h1 := hcell 0 (u1 (xs[0]'(by rw [h.1]; exact hn))) (by rw [show cs = [_] from hK]; rfl)
  exact World.block_lt_of_cell? w _ h1
set_option maxHeartbeats 9000000 in
set_option maxRecDepth 100000 in
theorem shaSum_any (w : World) (A : Option Addr) (c : Nat) (b : List UInt8) (hK : KAt w) (hI : IAt w) (hS : Rd.u8.Sl w A b.length b) (hc : b.length ≤ c) (h0 : 0 < b.length) (hn : b.length ≤ 10000000000) (hg : 1 < w.heap.size) :
    Calls Tryd.prog 76 #[.slice A b.length c] w fun e w' => e = .returned (.agg (macA (shaB b))) ∧ Ext w w' := by
  have hbk := sl_block hS h0
  obtain ⟨W, hWe⟩ : ∃ z, w.alloc (.cells #[.int .u8 0, .int .u8 0, .int .u8 0, .int .u8 0, .int .u8 0, .int .u8 0, .int .u8 0, .int .u8 0, .int .u8 0, .int .u8 0, .int .u8 0, .int .u8 0, .int .u8 0, .int .u8 0, .int .u8 0, .int .u8 0, .int .u8 0, .int .u8 0, .int .u8 0, .int .u8 0, .int .u8 0, .int .u8 0, .int .u8 0, .int .u8 0, .int .u8 0, .int .u8 0, .int .u8 0, .int .u8 0, .int .u8 0, .int .u8 0, .int .u8 0, .int .u8 0] 25) = z := ⟨_, rfl⟩
  have eW : Ext w W := by rw [← hWe]; exact (Ext.refl _).alloc _
  have B0 : Blk W w.heap.size 25 #[.int .u8 0, .int .u8 0, .int .u8 0, .int .u8 0, .int .u8 0, .int .u8 0, .int .u8 0, .int .u8 0, .int .u8 0, .int .u8 0, .int .u8 0, .int .u8 0, .int .u8 0, .int .u8 0, .int .u8 0, .int .u8 0, .int .u8 0, .int .u8 0, .int .u8 0, .int .u8 0, .int .u8 0, .int .u8 0, .int .u8 0, .int .u8 0, .int .u8 0, .int .u8 0, .int .u8 0, .int .u8 0, .int .u8 0, .int .u8 0, .int .u8 0, .int .u8 0] := by rw [← hWe]; exact Blk.new _ _ _
  have hnw := new_any W (hI.ext eW)
  have hKW := hK.ext eW
  have hSW := hS.ext eW
  obtain ⟨n, hbn⟩ : ∃ n, b.length = n := ⟨_, rfl⟩
  rw [hbn] at hc hn h0
  have HN := Lib.hid hbn
  have hpW : w.heap.size < W.heap.size := B0.lt
  clear hK hI hS
  go_enter Tryd.func76, Tryd.ntmps76
  go_upto_region 1 with fail
  try rw [hWe]
  clear hWe
  go_upto_region 2 with (go_at_call 77; (with_reducible refine hnw.mono ?_); rintro e w1 ⟨rfl, hH1, hE1⟩)
  have hw2 := write_any w1 W.heap.size [] b 0 A c (hKW.ext hE1) (by omega) hH1 (hSW.ext hE1) (by rw [HN.out]; exact hc) (fun p hp => by have := hbk p hp; omega) (by rw [HN.out]; omega)
  rw [List.nil_append, Nat.zero_add] at hw2
  have hX12 : ∀ w2, Exc W.heap.size (W.heap.size + 1) w1 w2 → Ext W w2 := fun w2 h => Exc.ext hE1 h (Nat.le_refl _)
  rw [hbn] at hw2
  clear hbn
  go_upto_region 3 with (go_at_call 78; (with_reducible refine hw2.mono ?_); rintro e w2 ⟨rfl, hH2, hX2⟩)
  have hE2 := hX12 w2 hX2
  rw [← HN.out] at hH2
  have hs3 := hsum_any w2 W.heap.size b (hKW.ext hE2) (by omega) hH2 (by rw [HN.out]; omega)
  have B0 := B0.ext hE2
  generalize hR : macA (shaB b) = R at *
  have hsz : R.size = 32 := by rw [← hR]; rfl
  have hone : R.all (·.oneCell') = true := by rw [← hR]; exact macA_one _
  clear hw2 hX12 hnw hH1 hH2 hX2
  refine wp_region_lit ?_
  iterate 1 (first | (refine pl_off (a' := ?_) rfl (by rfl) ?_ ?_; rotate_left 1; (· simp only [Act.put, List.setIfInBounds_toArray, List.set_cons_zero, List.set_cons_succ]; rfl)) | (refine pl_y (v := ?_) (a' := ?_) rfl (by rfl) ?_ ?_ ?_; rotate_left 2; (· go_simp; with_reducible rfl); (· simp only [Act.put, List.setIfInBounds_toArray, List.set_cons_zero, List.set_cons_succ]; rfl)))
  refine pl_call (args := ?_) Tryd.func79 (by kernel_rfl) rfl (by rfl) rfl rfl ?_ ?_
  rotate_left 1
  · go_simp; with_reducible rfl
  (with_reducible refine (hs3).mono ?_)
  rintro e w3 ⟨rfl, hE3⟩
  refine ⟨_, _, rfl, (by simp only [Act.put, List.setIfInBounds_toArray, List.set_cons_zero, List.set_cons_succ]; rfl), ?_⟩
  obtain ⟨WR, hst, BR, hXR⟩ := over_row (C := R) (B0.ext hE3) (by rw [hsz]; rfl) (by rw [hsz]; kernel_rfl) hone
  have hER : Ext w WR := Exc.ext (eW.trans (hE2.trans hE3)) hXR (Nat.le_refl _)
  refine pl_store (by rfl) rfl (run_op_store rfl ?_ ?_ hst) ?_
  · rfl
  · rfl
  refine wpList_nil ?_
  go_wp2_with fail
  refine bodyPost_ret (v := .agg R) (results_cell_row (P := Tryd.prog) (fn := Tryd.f76) rfl _ WR w.heap.size _ _ _ _ rfl BR Tryd.underlying25 rfl (by rw [hsz]; kernel_rfl)) rfl ?_
  exact ⟨by rw [hR], hER⟩
end Go.Proofs.YtjcpgjnogcmalaaDoor

/-! Codes by the program: the digest of two rows. -/
namespace Go.Proofs.YtjcpgjnogcmalaaDoor
set_option linter.unusedVariables false
set_option linter.unusedSimpArgs false
open Go.RowKit
set_option maxHeartbeats 9000000 in
set_option maxRecDepth 100000 in
theorem digest_any (w : World) (A : Option Addr) (c : Nat) (a : List UInt8) (A' : Option Addr) (c' : Nat) (b : List UInt8) (hK : KAt w) (hI : IAt w) (hS : Rd.u8.Sl w A a.length a) (hc : a.length ≤ c) (h0 : 0 < a.length) (hS' : Rd.u8.Sl w A' b.length b) (hc' : b.length ≤ c') (h0' : 0 < b.length) (hn : a.length + b.length ≤ 10000000000) (hg : 1 < w.heap.size) :
    Calls Tryd.prog 49 #[.slice A a.length c, .slice A' b.length c'] w fun e w' => e = .returned (.agg (macA (shaB (a ++ b)))) ∧ Ext w w' := by
  have hbk := sl_block hS h0
  have hbk' := sl_block hS' h0'
  obtain ⟨W, hWe⟩ : ∃ z, w.alloc (.cells #[.int .u8 0, .int .u8 0, .int .u8 0, .int .u8 0, .int .u8 0, .int .u8 0, .int .u8 0, .int .u8 0, .int .u8 0, .int .u8 0, .int .u8 0, .int .u8 0, .int .u8 0, .int .u8 0, .int .u8 0, .int .u8 0, .int .u8 0, .int .u8 0, .int .u8 0, .int .u8 0, .int .u8 0, .int .u8 0, .int .u8 0, .int .u8 0, .int .u8 0, .int .u8 0, .int .u8 0, .int .u8 0, .int .u8 0, .int .u8 0, .int .u8 0, .int .u8 0] 25) = z := ⟨_, rfl⟩
  have eW : Ext w W := by rw [← hWe]; exact (Ext.refl _).alloc _
  have B0 : Blk W w.heap.size 25 #[.int .u8 0, .int .u8 0, .int .u8 0, .int .u8 0, .int .u8 0, .int .u8 0, .int .u8 0, .int .u8 0, .int .u8 0, .int .u8 0, .int .u8 0, .int .u8 0, .int .u8 0, .int .u8 0, .int .u8 0, .int .u8 0, .int .u8 0, .int .u8 0, .int .u8 0, .int .u8 0, .int .u8 0, .int .u8 0, .int .u8 0, .int .u8 0, .int .u8 0, .int .u8 0, .int .u8 0, .int .u8 0, .int .u8 0, .int .u8 0, .int .u8 0, .int .u8 0] := by rw [← hWe]; exact Blk.new _ _ _
  have hnw := new_any W (hI.ext eW)
  have hKW := hK.ext eW
  have hSW := hS.ext eW
  have hSW' := hS'.ext eW
  have hpW : w.heap.size < W.heap.size := B0.lt
  obtain ⟨n, han⟩ : ∃ n, a.length = n := ⟨_, rfl⟩
  obtain ⟨m, hbm⟩ : ∃ m, b.length = m := ⟨_, rfl⟩
  have HN := Lib.hid han
  have HM := Lib.hid hbm
  rw [han] at hc h0 hn hSW
  rw [hbm] at hc' h0' hn hSW'
  rw [han, hbm]
  clear hK hI hS hS' han hbm
  go_enter Tryd.func49, Tryd.ntmps49
  go_upto_region 1 with fail
  try rw [hWe]
  clear hWe
  go_upto_region 2 with (go_at_call 77; (with_reducible refine hnw.mono ?_); rintro e w1 ⟨rfl, hH1, hE1⟩)
  have hw2 := write_any w1 W.heap.size [] a 0 A c (hKW.ext hE1) (by omega) hH1 (by rw [HN.out]; exact hSW.ext hE1) (by rw [HN.out]; exact hc) (fun p hp => by have := hbk p hp; omega) (by rw [HN.out]; omega)
  rw [List.nil_append, Nat.zero_add, HN.out] at hw2
  go_upto_region 4 with (go_at_call 78; (with_reducible refine hw2.mono ?_); rintro e w2 ⟨rfl, hH2, hX2⟩)
  have e2 : Ext W w2 := Exc.ext hE1 hX2 (Nat.le_refl _)
  have hw4 := write_any w2 W.heap.size a b n A' c' (hKW.ext e2) (by omega) hH2 (by rw [HM.out]; exact hSW'.ext e2) (by rw [HM.out]; exact hc') (fun p hp => by have := hbk' p hp; omega) (by rw [HM.out]; omega)
  rw [HM.out] at hw4
  clear hw2 hX2 hH2 hnw hH1 hE1
  go_upto_region 5 with (go_at_call 78; (with_reducible refine hw4.mono ?_); rintro e w4 ⟨rfl, hH4, hX4⟩)
  have e4 : Ext W w4 := Exc.ext e2 hX4 (Nat.le_refl _)
  have hlen : (a ++ b).length = n + m := by rw [List.length_append, HN.out, HM.out]
  rw [← hlen] at hH4
  have hs5 := hsum_any w4 W.heap.size (a ++ b) (hKW.ext e4) (by omega) hH4 (by rw [hlen]; omega)
  have B0 := B0.ext e4
  have HSR : Hid (macA (shaB (a ++ b)) = macA (shaB (a ++ b))) := Lib.hid rfl
  generalize hR : macA (shaB (a ++ b)) = R at *
  have hsz : R.size = 32 := by rw [← hR]; rfl
  have hone : R.all (·.oneCell') = true := by rw [← hR]; exact macA_one _
  clear hw4 hH4 hX4 hlen HSR
  refine wp_region_lit ?_
  iterate 1 (first | (refine pl_off (a' := ?_) rfl (by rfl) ?_ ?_; rotate_left 1; (· simp only [Act.put, List.setIfInBounds_toArray, List.set_cons_zero, List.set_cons_succ]; rfl)) | (refine pl_y (v := ?_) (a' := ?_) rfl (by rfl) ?_ ?_ ?_; rotate_left 2; (· go_simp; with_reducible rfl); (· simp only [Act.put, List.setIfInBounds_toArray, List.set_cons_zero, List.set_cons_succ]; rfl)))
  refine pl_call (args := ?_) Tryd.func79 (by kernel_rfl) rfl (by rfl) rfl rfl ?_ ?_
  rotate_left 1
  · go_simp; with_reducible rfl
  (with_reducible refine (hs5).mono ?_)
  rintro e w5 ⟨rfl, hE5⟩
  refine ⟨_, _, rfl, (by simp only [Act.put, List.setIfInBounds_toArray, List.set_cons_zero, List.set_cons_succ]; rfl), ?_⟩
  obtain ⟨WR, hst, BR, hXR⟩ := over_row (C := R) (B0.ext hE5) (by rw [hsz]; rfl) (by rw [hsz]; kernel_rfl) hone
  have hER : Ext w WR := Exc.ext (eW.trans (e4.trans hE5)) hXR (Nat.le_refl _)
  refine pl_store (by rfl) rfl (run_op_store rfl ?_ ?_ hst) ?_
  · rfl
  · rfl
  refine wpList_nil ?_
  go_wp2_with fail
  refine bodyPost_ret (v := .agg R) (results_cell_row (P := Tryd.prog) (fn := Tryd.f49) rfl _ WR w.heap.size _ _ _ _ rfl BR Tryd.underlying25 rfl (by rw [hsz]; kernel_rfl)) rfl ?_
  exact ⟨by rw [hR], hER⟩
end Go.Proofs.YtjcpgjnogcmalaaDoor

/-! Codes by the program: a key's blocks (keys of at most 64 bytes). -/
namespace Go.Proofs.YtjcpgjnogcmalaaDoor
set_option linter.unusedVariables false
set_option linter.unusedSimpArgs false
open Go.RowKit
theorem z64_map : (#[.int .u8 0, .int .u8 0, .int .u8 0, .int .u8 0, .int .u8 0, .int .u8 0, .int .u8 0, .int .u8 0, .int .u8 0, .int .u8 0, .int .u8 0, .int .u8 0, .int .u8 0, .int .u8 0, .int .u8 0, .int .u8 0, .int .u8 0, .int .u8 0, .int .u8 0, .int .u8 0, .int .u8 0, .int .u8 0, .int .u8 0, .int .u8 0, .int .u8 0, .int .u8 0, .int .u8 0, .int .u8 0, .int .u8 0, .int .u8 0, .int .u8 0, .int .u8 0, .int .u8 0, .int .u8 0, .int .u8 0, .int .u8 0, .int .u8 0, .int .u8 0, .int .u8 0, .int .u8 0, .int .u8 0, .int .u8 0, .int .u8 0, .int .u8 0, .int .u8 0, .int .u8 0, .int .u8 0, .int .u8 0, .int .u8 0, .int .u8 0, .int .u8 0, .int .u8 0, .int .u8 0, .int .u8 0, .int .u8 0, .int .u8 0, .int .u8 0, .int .u8 0, .int .u8 0, .int .u8 0, .int .u8 0, .int .u8 0, .int .u8 0, .int .u8 0] : Array Value) = ((List.replicate 64 (0 : UInt8)).map u1).toArray := by kernel_rfl
/-- The first j bytes turned. -/
def xorTo (k : List UInt8) (x : UInt8) (j : Nat) : List UInt8 := (List.range 64).map fun i => if i < j then k.getD i 0 ^^^ x else k.getD i 0
theorem xorTo_set (k : List UInt8) (x : UInt8) (j : Nat) (h : j < 64) : (xorTo k x j).set j (k.getD j 0 ^^^ x) = xorTo k x (j + 1) := by
  refine range_set _ _ 64 j h _ ?_ fun i hi => ?_
  · rw [if_pos (by omega)]
  · by_cases h1 : i < j
    · rw [if_pos h1, if_pos (by omega)]
    · rw [if_neg h1, if_neg (by omega)]
theorem xorTo_at (k : List UInt8) (x : UInt8) (j : Nat) (h : j < 64) : ((xorTo k x j).map u1).toArray[j]? = some (u1 (k.getD j 0)) := by
  unfold xorTo
  rw [List.getElem?_toArray, List.getElem?_map, range_get _ 64 j h, Option.map_some, if_neg (Nat.lt_irrefl j)]
theorem xorTo_zero (k : List UInt8) (x : UInt8) (h : k.length = 64) : xorTo k x 0 = k := by
  unfold xorTo
  apply List.ext_getElem
  · simp [h]
  · intro i h1 h2
    simp [List.getD, h2]
theorem xorTo_all (k : List UInt8) (x : UInt8) (h : k.length = 64) : xorTo k x 64 = k.map (· ^^^ x) := by
  unfold xorTo
  apply List.ext_getElem
  · simp [h]
  · intro i h1 h2
    have hi : i < k.length := by simpa using h2
    simp [List.getD, hi, show i < 64 by omega]
theorem key_short (k : List UInt8) (h : k.length ≤ 64) : keyB k = k ++ List.replicate (64 - k.length) 0 := by
  unfold keyB; rw [if_neg (by omega)]
theorem b8_xor (x y : UInt8) : bits .xor .u8 (x.toNat : Int) (y.toNat : Int) = ((x ^^^ y).toNat : Int) := by
  rw [u8_xor_nat _ _ x.toNat_lt y.toNat_lt, UInt8.toNat_xor]
theorem results_rows2 {P : Program} {fn : Func} {p q : Tmp} {ty : TypeId} (h : fn.results = #[.cell p ty, .cell q ty]) (tmps : Array Value) (w : World) {g g' : Nat} {t t' : TypeId} {cs cs' : Array Value} {d : TypeDesc}
    (hp : tmps.getD p undef = .pointer (some ⟨g, 0, none⟩)) (hg : Blk w g t cs) (hq : tmps.getD q undef = .pointer (some ⟨g', 0, none⟩)) (hg' : Blk w g' t' cs')
    (hu : P.underlying ty = some d) (hd : (match d with | .struct _ | .array _ _ => true | _ => false) = true) (hi : (P.info? ty).map (·.size) = some cs.size) (hi' : (P.info? ty).map (·.size) = some cs'.size) :
    (results fn tmps).run P w = .ok (.tuple #[.agg cs, .agg cs']) w := by
  have hp' : tmps[p]?.getD undef = .pointer (some ⟨g, 0, none⟩) := by simpa using hp
  have hq' : tmps[q]?.getD undef = .pointer (some ⟨g', 0, none⟩) := by simpa using hq
  simp [results, h, hp', hq', asAddr, run_loadVar_row w g t ty cs (0, 0) d hg hu hd hi, run_loadVar_row w g' t' ty cs' (0, 0) d hg' hu hd hi']
set_option maxHeartbeats 9000000 in
set_option maxRecDepth 100000 in
theorem blocks_any (w : World) (A : Option Addr) (c : Nat) (k : List UInt8) (hS : Rd.u8.Sl w A k.length k) (hc : k.length ≤ c) (hn : k.length ≤ 64) :
    Calls Tryd.prog 48 #[.slice A k.length c] w fun e w' => e = .returned (.tuple #[.agg (((keyB k).map (· ^^^ 0x36)).map u1).toArray, .agg (((keyB k).map (· ^^^ 0x5C)).map u1).toArray]) ∧ Ext w w' := by
  obtain ⟨W, hWe⟩ : ∃ z, (w.alloc (.cells #[.int .u8 0, .int .u8 0, .int .u8 0, .int .u8 0, .int .u8 0, .int .u8 0, .int .u8 0, .int .u8 0, .int .u8 0, .int .u8 0, .int .u8 0, .int .u8 0, .int .u8 0, .int .u8 0, .int .u8 0, .int .u8 0, .int .u8 0, .int .u8 0, .int .u8 0, .int .u8 0, .int .u8 0, .int .u8 0, .int .u8 0, .int .u8 0, .int .u8 0, .int .u8 0, .int .u8 0, .int .u8 0, .int .u8 0, .int .u8 0, .int .u8 0, .int .u8 0, .int .u8 0, .int .u8 0, .int .u8 0, .int .u8 0, .int .u8 0, .int .u8 0, .int .u8 0, .int .u8 0, .int .u8 0, .int .u8 0, .int .u8 0, .int .u8 0, .int .u8 0, .int .u8 0, .int .u8 0, .int .u8 0, .int .u8 0, .int .u8 0, .int .u8 0, .int .u8 0, .int .u8 0, .int .u8 0, .int .u8 0, .int .u8 0, .int .u8 0, .int .u8 0, .int .u8 0, .int .u8 0, .int .u8 0, .int .u8 0, .int .u8 0, .int .u8 0] 72)).alloc (.cells #[.int .u8 0, .int .u8 0, .int .u8 0, .int .u8 0, .int .u8 0, .int .u8 0, .int .u8 0, .int .u8 0, .int .u8 0, .int .u8 0, .int .u8 0, .int .u8 0, .int .u8 0, .int .u8 0, .int .u8 0, .int .u8 0, .int .u8 0, .int .u8 0, .int .u8 0, .int .u8 0, .int .u8 0, .int .u8 0, .int .u8 0, .int .u8 0, .int .u8 0, .int .u8 0, .int .u8 0, .int .u8 0, .int .u8 0, .int .u8 0, .int .u8 0, .int .u8 0, .int .u8 0, .int .u8 0, .int .u8 0, .int .u8 0, .int .u8 0, .int .u8 0, .int .u8 0, .int .u8 0, .int .u8 0, .int .u8 0, .int .u8 0, .int .u8 0, .int .u8 0, .int .u8 0, .int .u8 0, .int .u8 0, .int .u8 0, .int .u8 0, .int .u8 0, .int .u8 0, .int .u8 0, .int .u8 0, .int .u8 0, .int .u8 0, .int .u8 0, .int .u8 0, .int .u8 0, .int .u8 0, .int .u8 0, .int .u8 0, .int .u8 0, .int .u8 0] 72) = z := ⟨_, rfl⟩
  have eW : Ext w W := by rw [← hWe]; exact ((Ext.refl _).alloc _).alloc _
  have BI : Blk W w.heap.size 72 ((List.replicate 64 (0 : UInt8)).map u1).toArray := by rw [← hWe, z64_map]; exact (Blk.new _ _ _).alloc _
  have BO : Blk W (w.heap.size + 1) 72 ((List.replicate 64 (0 : UInt8)).map u1).toArray := by rw [← hWe, z64_map]; have := Blk.new (w.alloc (.cells ((List.replicate 64 (0 : UInt8)).map u1).toArray 72)) 72 ((List.replicate 64 (0 : UInt8)).map u1).toArray; simpa using this
  have hSW := hS.ext eW
  obtain ⟨n, hkn⟩ : ∃ n, k.length = n := ⟨_, rfl⟩
  rw [hkn] at hc hn hSW ⊢
  have HN := Lib.hid hkn
  clear hkn hS
  go_enter Tryd.func48, Tryd.ntmps48
  go_upto_region 4 with fail
  try rw [hWe]
  clear hWe
  obtain ⟨q, hq⟩ : ∃ q, w.heap.size + 1 = q := ⟨_, rfl⟩
  rw [hq] at BO ⊢
  have hqp : w.heap.size < q := by omega
  clear hq
  go_upto_region 5 with (refine wpList_copy_blk rfl (.tmp 12) (.tmp 13) 40 40 rfl 5 Tryd.underlying40 (by kernel_rfl) w.heap.size 0 64 64 A n c rfl rfl _ _ BI k hSW n (Nat.min_eq_left hn).symm (by simp; omega) ?_; intro w1 BI1 hX1)
  have hK64 : (keyB k).length = 64 := keyB_len k
  have hKe : ((List.replicate 64 (0 : UInt8)).map u1).take 0 ++ ((k.take n).map u1 ++ ((List.replicate 64 (0 : UInt8)).map u1).drop (0 + n)) = (keyB k).map u1 := by
    have hkl : k.length = n := HN.out
    rw [key_short k (by omega), List.take_of_length_le (l := k) (Nat.le_of_eq hkl), hkl]
    simp only [List.take_zero, List.nil_append, Nat.zero_add, List.map_append, List.map_replicate, List.drop_replicate]
  rw [hKe] at BI1
  have BO := hX1.blk BO (.inr (by omega))
  have e1 : Ext w w1 := Exc.ext eW hX1 (Nat.le_refl _)
  obtain ⟨K, hKK⟩ : ∃ K, keyB k = K := ⟨_, rfl⟩
  rw [hKK] at BI1 hK64
  have HKK := Lib.hid hKK
  have hone : ((K.map u1).toArray).all (·.oneCell') = true := by simp [u1, Value.oneCell']
  have hsz : ((K.map u1).toArray).size = 64 := by simpa using hK64
  have ld := load_whole BI1 72 _ Tryd.underlying72 rfl (by rw [hsz]; kernel_rfl)
  obtain ⟨w2, hst, BO2, hX2⟩ := over_row (C := (K.map u1).toArray) BO (by rw [hsz]; simp) (by rw [hsz]; kernel_rfl) hone
  have BI2 := hX2.blk BI1 (.inl hqp)
  have e2 : Ext w w2 := Exc.ext e1 hX2 (by omega)
  obtain ⟨CC, hCC⟩ : ∃ CC, (K.map u1).toArray = CC := ⟨_, rfl⟩
  rw [hCC] at ld hst
  refine wp_region_lit ?_
  refine pl_y (v := ?_) (a' := ?_) rfl (by rfl) ?_ ?_ ?_
  rotate_left 2
  · (refine (run_op_load rfl ?_ (ld)).trans ?_; (· rfl); (· with_reducible rfl))
  · simp only [Act.put, List.setIfInBounds_toArray, List.set_cons_zero, List.set_cons_succ]; rfl
  refine pl_store (by rfl) rfl (run_op_store rfl ?_ ?_ hst) ?_
  · rfl
  · rfl
  refine wpList_nil ?_
  clear hKe BI BO BI1 hX1 hX2 ld hst hSW eW e1 hKK hone hsz hCC
  have BI3 : Blk w2 w.heap.size 72 ((xorTo K 0x36 0).map u1).toArray := by rw [xorTo_zero _ _ hK64]; exact BI2
  have BO3 : Blk w2 q 72 ((xorTo K 0x5C 0).map u1).toArray := by rw [xorTo_zero _ _ hK64]; exact BO2
  go_upto_region 6 with fail
  go_wp2_with fail
  go_loopw [16] (fun i wr => ∃ j : Nat, j ≤ 64 ∧ i = .int .i64 j ∧ Blk wr w.heap.size 72 ((xorTo K 0x36 j).map u1).toArray ∧ Blk wr q 72 ((xorTo K 0x5C j).map u1).toArray ∧ Ext w wr) (fun i _ => 64 - (intOf i).toNat)
  case atStart => exact ⟨0, by omega, rfl, BI3, BO3, e2⟩
  case round =>
    clear BI2 BO2 BI3 BO3 e2
    obtain ⟨j, hj, rfl, BI, BO, hE⟩ := hrel
    by_cases hlt : j < 64
    · have y1 := BI.cell j (xorTo_at K _ j hlt)
      have y2 := BO.cell j (xorTo_at K _ j hlt)
      have f1 := BI.frozen j
      have f2 := BO.frozen j
      have t1 := xorTo_set K 0x36 j hlt
      have t2 := xorTo_set K 0x5C j hlt
      have v1 := b8_xor (K.getD j 0) 0x36
      have v2 := b8_xor (K.getD j 0) 0x5C
      rw [show ((0x36 : UInt8).toNat : Int) = 54 from rfl] at v1
      rw [show ((0x5C : UInt8).toNat : Int) = 92 from rfl] at v2
      generalize K.getD j 0 ^^^ 0x36 = x1 at *
      generalize K.getD j 0 ^^^ 0x5C = x2 at *
      generalize K.getD j 0 = x0 at *
      have T1 : Hid (((xorTo K 0x36 j).map u1).toArray.setIfInBounds j (u1 x1) = ((xorTo K 0x36 (j + 1)).map u1).toArray) := Lib.hid (by rw [List.setIfInBounds_toArray, ← List.map_set, t1])
      have T2 : Hid (((xorTo K 0x5C j).map u1).toArray.setIfInBounds j (u1 x2) = ((xorTo K 0x5C (j + 1)).map u1).toArray) := Lib.hid (by rw [List.setIfInBounds_toArray, ← List.map_set, t2])
      unfold u1 at y1 y2
      clear t1 t2
      go_upto_region 11 with fail
      have BI' : Blk ((wr.setCell ⟨w.heap.size, j, none⟩ (.int .u8 (x1.toNat : Int))).setCell ⟨q, j, none⟩ (.int .u8 (x2.toNat : Int))) w.heap.size 72 ((xorTo K 0x36 (j + 1)).map u1).toArray := by rw [← T1.out]; exact (BI.set_ j _).far (p := ⟨q, j, none⟩) (by show w.heap.size ≠ q; omega) _
      have BO' : Blk ((wr.setCell ⟨w.heap.size, j, none⟩ (.int .u8 (x1.toNat : Int))).setCell ⟨q, j, none⟩ (.int .u8 (x2.toNat : Int))) q 72 ((xorTo K 0x5C (j + 1)).map u1).toArray := by rw [← T2.out]; exact (BO.far (p := ⟨w.heap.size, j, none⟩) (by show q ≠ w.heap.size; omega) _).set_ j _
      have hE' : Ext w ((wr.setCell ⟨w.heap.size, j, none⟩ (.int .u8 (x1.toNat : Int))).setCell ⟨q, j, none⟩ (.int .u8 (x2.toNat : Int))) := Ext.set (Ext.set hE (p := ⟨w.heap.size, j, none⟩) (Nat.le_refl _) _) (p := ⟨q, j, none⟩) (by show w.heap.size ≤ q; omega) _
      clear y1 y2 f1 f2 v1 v2 T1 T2 BI BO hE
      generalize (wr.setCell ⟨w.heap.size, j, none⟩ (.int .u8 (x1.toNat : Int))).setCell ⟨q, j, none⟩ (.int .u8 (x2.toNat : Int)) = wn at *
      go_wp2_with fail
      go_roundw
      case rel => exact ⟨j + 1, by omega, by go_num, BI', BO', hE'⟩
      case measure => simp [intOf]; omega
    · obtain rfl : j = 64 := by omega
      rw [xorTo_all _ _ hK64] at BI BO
      obtain ⟨CI, hCI⟩ : ∃ C, ((K.map (· ^^^ 0x36)).map u1).toArray = C := ⟨_, rfl⟩
      obtain ⟨CO, hCO⟩ : ∃ C, ((K.map (· ^^^ 0x5C)).map u1).toArray = C := ⟨_, rfl⟩
      rw [hCI] at BI
      rw [hCO] at BO
      have szI : CI.size = 64 := by rw [← hCI]; simpa using hK64
      have szO : CO.size = 64 := by rw [← hCO]; simpa using hK64
      have oneI : CI.all (·.oneCell') = true := by rw [← hCI]; simp [u1, Value.oneCell']
      have oneO : CO.all (·.oneCell') = true := by rw [← hCO]; simp [u1, Value.oneCell']
      have HCI := Lib.hid hCI
      have HCO := Lib.hid hCO
      clear hCI hCO HN hK64
      have ldI := fun (w' : World) (h : Blk w' w.heap.size 72 CI ∧ Blk w' q 72 CO ∧ Ext w w') => load_whole h.1 72 _ Tryd.underlying72 rfl (by rw [szI]; kernel_rfl)
      have ldO := fun (w' : World) (h : Blk w' w.heap.size 72 CI ∧ Blk w' q 72 CO ∧ Ext w w') => load_whole h.2.1 72 _ Tryd.underlying72 rfl (by rw [szO]; kernel_rfl)
      go_upto_region 12 with fail
      refine wp_region_noPanic ?_
      refine tr_start (.y 0 (.y 1 (.e 2 (.e 3 .nil)))) (fun w' => Blk w' w.heap.size 72 CI ∧ Blk w' q 72 CO ∧ Ext w w') (by kernel_rfl) (by as_aux_lemma => kernel_rfl) (fun _ _ _ _ _ h => h) ⟨BI.drew, BO.drew, hE.drew⟩ ?_
      refine tr_y (v := ?_) (a' := ?_) rfl rfl (by rfl) (fun w' hw' => ?_) ?_ ?_
      rotate_left 2
      · (refine (run_op_load rfl ?_ (ldI w' hw')).trans ?_; (· rfl); (· with_reducible rfl))
      · simp only [Act.put, List.setIfInBounds_toArray, List.set_cons_zero, List.set_cons_succ]; rfl
      refine tr_y (v := ?_) (a' := ?_) rfl rfl (by rfl) (fun w' hw' => ?_) ?_ ?_
      rotate_left 2
      · (refine (run_op_load rfl ?_ (ldO w' hw')).trans ?_; (· rfl); (· with_reducible rfl))
      · simp only [Act.put, List.setIfInBounds_toArray, List.set_cons_zero, List.set_cons_succ]; rfl
      have BI := BI.drew
      have BO := BO.drew
      have hE := hE.drew
      generalize wr.drew = wd at *
      obtain ⟨w1, hst1, BI1, hX1⟩ := over_row (C := CI) BI rfl (by rw [szI]; kernel_rfl) oneI
      have BO1 := hX1.blk BO (.inr (by omega))
      have hE1 : Ext w w1 := Exc.ext hE hX1 (Nat.le_refl _)
      obtain ⟨w2, hst2, BO2, hX2⟩ := over_row (C := CO) BO1 rfl (by rw [szO]; kernel_rfl) oneO
      have BI2 := hX2.blk BI1 (.inl hqp)
      have hE2 : Ext w w2 := Exc.ext hE1 hX2 (by omega)
      refine tr_store (w1 := w1) rfl (by rfl) rfl (run_op_store rfl (by rfl) (by rfl) hst1) ⟨BI1, BO1, hE1⟩ ?_
      refine tr_last (w1 := w2) rfl (by rfl) rfl (by kernel_rfl) (run_op_store rfl (by rfl) (by rfl) hst2) ?_
      refine NoPanic.normal ?_
      go_wp2_with fail
      refine bodyPost_ret (v := .tuple #[.agg CI, .agg CO]) (results_rows2 (P := Tryd.prog) (fn := Tryd.f48) rfl _ w2 rfl BI2 rfl BO2 Tryd.underlying72 rfl (by rw [szI]; kernel_rfl) (by rw [szO]; kernel_rfl)) rfl ?_
      exact ⟨by rw [HKK.out, HCI.out, HCO.out], hE2⟩
end Go.Proofs.YtjcpgjnogcmalaaDoor

/-! Codes by the program: the code of bytes under a key of at most 64 bytes, and under a code. -/
namespace Go.Proofs.YtjcpgjnogcmalaaDoor
set_option linter.unusedVariables false
set_option linter.unusedSimpArgs false
open Go.RowKit
theorem sl_rows8 {w : World} {g : Nat} {t : TypeId} {l : List UInt8} {n : Nat} (h : Blk w g t (l.map u1).toArray) (hl : l.length = n) : Rd.u8.Sl w (some ⟨g, 0, none⟩) n l := by
  subst hl; exact sl_blk h
theorem macA_u1 (m : List UInt8) (h : m.length = 32) : macA m = (m.map u1).toArray := by
  apply Array.ext
  · rw [macA_size]; simp [h]
  · intro i h1 h2
    have hi : i < 32 := by rw [macA_size] at h1; exact h1
    have e := macA_at m i hi
    have e2 : ((m.map u1).toArray)[i]? = some (mb m i) := by
      rw [List.getElem?_toArray, List.getElem?_map, List.getElem?_eq_getElem (show i < m.length by omega)]
      simp [mb, u1, List.getD, show i < m.length by omega]
    exact Option.some.inj ((Array.getElem?_eq_getElem h1).symm.trans (e.trans (e2.symm.trans (Array.getElem?_eq_getElem h2))))
set_option maxHeartbeats 9000000 in
set_option maxRecDepth 100000 in
theorem macOf_any (w : World) (A : Option Addr) (c : Nat) (k : List UInt8) (A' : Option Addr) (c' : Nat) (b : List UInt8) (hK : KAt w) (hI : IAt w) (hS : Rd.u8.Sl w A k.length k) (hc : k.length ≤ c) (hn : k.length ≤ 64) (hS' : Rd.u8.Sl w A' b.length b) (hc' : b.length ≤ c') (h0 : 0 < b.length) (hb : b.length ≤ 1000000000) (hg : 1 < w.heap.size) :
    Calls Tryd.prog 17 #[.slice A k.length c, .slice A' b.length c'] w fun e w' => e = .returned (.agg (macA (macB k b))) ∧ Ext w w' := by
  obtain ⟨W, hWe⟩ : ∃ z, w.alloc (.cells #[.int .u8 0, .int .u8 0, .int .u8 0, .int .u8 0, .int .u8 0, .int .u8 0, .int .u8 0, .int .u8 0, .int .u8 0, .int .u8 0, .int .u8 0, .int .u8 0, .int .u8 0, .int .u8 0, .int .u8 0, .int .u8 0, .int .u8 0, .int .u8 0, .int .u8 0, .int .u8 0, .int .u8 0, .int .u8 0, .int .u8 0, .int .u8 0, .int .u8 0, .int .u8 0, .int .u8 0, .int .u8 0, .int .u8 0, .int .u8 0, .int .u8 0, .int .u8 0] 25) = z := ⟨_, rfl⟩
  have eW : Ext w W := by rw [← hWe]; exact (Ext.refl _).alloc _
  have BR : Blk W w.heap.size 25 #[.int .u8 0, .int .u8 0, .int .u8 0, .int .u8 0, .int .u8 0, .int .u8 0, .int .u8 0, .int .u8 0, .int .u8 0, .int .u8 0, .int .u8 0, .int .u8 0, .int .u8 0, .int .u8 0, .int .u8 0, .int .u8 0, .int .u8 0, .int .u8 0, .int .u8 0, .int .u8 0, .int .u8 0, .int .u8 0, .int .u8 0, .int .u8 0, .int .u8 0, .int .u8 0, .int .u8 0, .int .u8 0, .int .u8 0, .int .u8 0, .int .u8 0, .int .u8 0] := by rw [← hWe]; exact Blk.new _ _ _
  have hpW : w.heap.size < W.heap.size := BR.lt
  have hbl := blocks_any W A c k (hS.ext eW) hc hn
  have hKW := hK.ext eW
  have hIW := hI.ext eW
  have hSW := hS'.ext eW
  obtain ⟨n, hkn⟩ : ∃ n, k.length = n := ⟨_, rfl⟩
  obtain ⟨m, hbm⟩ : ∃ m, b.length = m := ⟨_, rfl⟩
  rw [hkn] at hbl ⊢
  rw [hbm] at hSW hc' h0 hb ⊢
  have HM := Lib.hid hbm
  have hmac : macB k b = shaB ((keyB k).map (· ^^^ 0x5C) ++ shaB ((keyB k).map (· ^^^ 0x36) ++ b)) := rfl
  rw [hmac]
  have hl : (keyB k).length = 64 := keyB_len k
  obtain ⟨ki, hki⟩ : ∃ z, (keyB k).map (· ^^^ 0x36) = z := ⟨_, rfl⟩
  obtain ⟨ko, hko⟩ : ∃ z, (keyB k).map (· ^^^ 0x5C) = z := ⟨_, rfl⟩
  rw [hki] at hbl ⊢
  rw [hko] at hbl ⊢
  have li : ki.length = 64 := by rw [← hki]; simpa using hl
  have lo : ko.length = 64 := by rw [← hko]; simpa using hl
  clear hki hko hl hmac hkn hbm hS hS' hK hI
  obtain ⟨CI, hCI⟩ : ∃ C, (ki.map u1).toArray = C := ⟨_, rfl⟩
  obtain ⟨CO, hCO⟩ : ∃ C, (ko.map u1).toArray = C := ⟨_, rfl⟩
  rw [hCI, hCO] at hbl
  have szI : CI.size = 64 := by rw [← hCI]; simpa using li
  have szO : CO.size = 64 := by rw [← hCO]; simpa using lo
  have oneI : CI.all (·.oneCell') = true := by rw [← hCI]; simp [u1, Value.oneCell']
  have oneO : CO.all (·.oneCell') = true := by rw [← hCO]; simp [u1, Value.oneCell']
  have HCI := Lib.hid hCI
  have HCO := Lib.hid hCO
  have LI := Lib.hid li
  have LO := Lib.hid lo
  clear hCI hCO li lo
  go_enter Tryd.func17, Tryd.ntmps17
  go_upto_region 1 with fail
  try rw [hWe]
  clear hWe
  refine wp_region_lit ?_
  iterate 1 (first | (refine pl_off (a' := ?_) rfl (by rfl) ?_ ?_; rotate_left 1; (· simp only [Act.put, List.setIfInBounds_toArray, List.set_cons_zero, List.set_cons_succ]; rfl)) | (refine pl_y (v := ?_) (a' := ?_) rfl (by rfl) ?_ ?_ ?_; rotate_left 2; (· go_simp; with_reducible rfl); (· simp only [Act.put, List.setIfInBounds_toArray, List.set_cons_zero, List.set_cons_succ]; rfl)))
  refine pl_call (args := ?_) Tryd.func48 (by kernel_rfl) rfl (by rfl) rfl rfl ?_ ?_
  rotate_left 1
  · go_simp; with_reducible rfl
  (with_reducible refine (hbl).mono ?_)
  rintro e w1 ⟨rfl, hE1⟩
  refine ⟨_, _, rfl, (by simp only [Act.put, List.setIfInBounds_toArray, List.set_cons_zero, List.set_cons_succ]; rfl), ?_⟩
  iterate 3 (first | (refine pl_off (a' := ?_) rfl (by rfl) ?_ ?_; rotate_left 1; (· simp only [Act.put, List.setIfInBounds_toArray, List.set_cons_zero, List.set_cons_succ]; rfl)) | (refine pl_y (v := ?_) (a' := ?_) rfl (by rfl) ?_ ?_ ?_; rotate_left 2; (· go_simp; with_reducible rfl); (· simp only [Act.put, List.setIfInBounds_toArray, List.set_cons_zero, List.set_cons_succ]; rfl)))
  obtain ⟨w2, hw2e⟩ : ∃ z, (w1.alloc (.cells #[.int .u8 0, .int .u8 0, .int .u8 0, .int .u8 0, .int .u8 0, .int .u8 0, .int .u8 0, .int .u8 0, .int .u8 0, .int .u8 0, .int .u8 0, .int .u8 0, .int .u8 0, .int .u8 0, .int .u8 0, .int .u8 0, .int .u8 0, .int .u8 0, .int .u8 0, .int .u8 0, .int .u8 0, .int .u8 0, .int .u8 0, .int .u8 0, .int .u8 0, .int .u8 0, .int .u8 0, .int .u8 0, .int .u8 0, .int .u8 0, .int .u8 0, .int .u8 0, .int .u8 0, .int .u8 0, .int .u8 0, .int .u8 0, .int .u8 0, .int .u8 0, .int .u8 0, .int .u8 0, .int .u8 0, .int .u8 0, .int .u8 0, .int .u8 0, .int .u8 0, .int .u8 0, .int .u8 0, .int .u8 0, .int .u8 0, .int .u8 0, .int .u8 0, .int .u8 0, .int .u8 0, .int .u8 0, .int .u8 0, .int .u8 0, .int .u8 0, .int .u8 0, .int .u8 0, .int .u8 0, .int .u8 0, .int .u8 0, .int .u8 0, .int .u8 0] 72)).alloc (.cells #[.int .u8 0, .int .u8 0, .int .u8 0, .int .u8 0, .int .u8 0, .int .u8 0, .int .u8 0, .int .u8 0, .int .u8 0, .int .u8 0, .int .u8 0, .int .u8 0, .int .u8 0, .int .u8 0, .int .u8 0, .int .u8 0, .int .u8 0, .int .u8 0, .int .u8 0, .int .u8 0, .int .u8 0, .int .u8 0, .int .u8 0, .int .u8 0, .int .u8 0, .int .u8 0, .int .u8 0, .int .u8 0, .int .u8 0, .int .u8 0, .int .u8 0, .int .u8 0, .int .u8 0, .int .u8 0, .int .u8 0, .int .u8 0, .int .u8 0, .int .u8 0, .int .u8 0, .int .u8 0, .int .u8 0, .int .u8 0, .int .u8 0, .int .u8 0, .int .u8 0, .int .u8 0, .int .u8 0, .int .u8 0, .int .u8 0, .int .u8 0, .int .u8 0, .int .u8 0, .int .u8 0, .int .u8 0, .int .u8 0, .int .u8 0, .int .u8 0, .int .u8 0, .int .u8 0, .int .u8 0, .int .u8 0, .int .u8 0, .int .u8 0, .int .u8 0] 72) = z := ⟨_, rfl⟩
  have e2 : Ext w1 w2 := by rw [← hw2e]; exact ((Ext.refl _).alloc _).alloc _
  have BI0 : Blk w2 w1.heap.size 72 #[.int .u8 0, .int .u8 0, .int .u8 0, .int .u8 0, .int .u8 0, .int .u8 0, .int .u8 0, .int .u8 0, .int .u8 0, .int .u8 0, .int .u8 0, .int .u8 0, .int .u8 0, .int .u8 0, .int .u8 0, .int .u8 0, .int .u8 0, .int .u8 0, .int .u8 0, .int .u8 0, .int .u8 0, .int .u8 0, .int .u8 0, .int .u8 0, .int .u8 0, .int .u8 0, .int .u8 0, .int .u8 0, .int .u8 0, .int .u8 0, .int .u8 0, .int .u8 0, .int .u8 0, .int .u8 0, .int .u8 0, .int .u8 0, .int .u8 0, .int .u8 0, .int .u8 0, .int .u8 0, .int .u8 0, .int .u8 0, .int .u8 0, .int .u8 0, .int .u8 0, .int .u8 0, .int .u8 0, .int .u8 0, .int .u8 0, .int .u8 0, .int .u8 0, .int .u8 0, .int .u8 0, .int .u8 0, .int .u8 0, .int .u8 0, .int .u8 0, .int .u8 0, .int .u8 0, .int .u8 0, .int .u8 0, .int .u8 0, .int .u8 0, .int .u8 0] := by rw [← hw2e]; exact (Blk.new _ _ _).alloc _
  have BO0 : Blk w2 (w1.heap.size + 1) 72 #[.int .u8 0, .int .u8 0, .int .u8 0, .int .u8 0, .int .u8 0, .int .u8 0, .int .u8 0, .int .u8 0, .int .u8 0, .int .u8 0, .int .u8 0, .int .u8 0, .int .u8 0, .int .u8 0, .int .u8 0, .int .u8 0, .int .u8 0, .int .u8 0, .int .u8 0, .int .u8 0, .int .u8 0, .int .u8 0, .int .u8 0, .int .u8 0, .int .u8 0, .int .u8 0, .int .u8 0, .int .u8 0, .int .u8 0, .int .u8 0, .int .u8 0, .int .u8 0, .int .u8 0, .int .u8 0, .int .u8 0, .int .u8 0, .int .u8 0, .int .u8 0, .int .u8 0, .int .u8 0, .int .u8 0, .int .u8 0, .int .u8 0, .int .u8 0, .int .u8 0, .int .u8 0, .int .u8 0, .int .u8 0, .int .u8 0, .int .u8 0, .int .u8 0, .int .u8 0, .int .u8 0, .int .u8 0, .int .u8 0, .int .u8 0, .int .u8 0, .int .u8 0, .int .u8 0, .int .u8 0, .int .u8 0, .int .u8 0, .int .u8 0, .int .u8 0] := by rw [← hw2e]; have := Blk.new (w1.alloc (.cells #[.int .u8 0, .int .u8 0, .int .u8 0, .int .u8 0, .int .u8 0, .int .u8 0, .int .u8 0, .int .u8 0, .int .u8 0, .int .u8 0, .int .u8 0, .int .u8 0, .int .u8 0, .int .u8 0, .int .u8 0, .int .u8 0, .int .u8 0, .int .u8 0, .int .u8 0, .int .u8 0, .int .u8 0, .int .u8 0, .int .u8 0, .int .u8 0, .int .u8 0, .int .u8 0, .int .u8 0, .int .u8 0, .int .u8 0, .int .u8 0, .int .u8 0, .int .u8 0, .int .u8 0, .int .u8 0, .int .u8 0, .int .u8 0, .int .u8 0, .int .u8 0, .int .u8 0, .int .u8 0, .int .u8 0, .int .u8 0, .int .u8 0, .int .u8 0, .int .u8 0, .int .u8 0, .int .u8 0, .int .u8 0, .int .u8 0, .int .u8 0, .int .u8 0, .int .u8 0, .int .u8 0, .int .u8 0, .int .u8 0, .int .u8 0, .int .u8 0, .int .u8 0, .int .u8 0, .int .u8 0, .int .u8 0, .int .u8 0, .int .u8 0, .int .u8 0] 72)) 72 #[.int .u8 0, .int .u8 0, .int .u8 0, .int .u8 0, .int .u8 0, .int .u8 0, .int .u8 0, .int .u8 0, .int .u8 0, .int .u8 0, .int .u8 0, .int .u8 0, .int .u8 0, .int .u8 0, .int .u8 0, .int .u8 0, .int .u8 0, .int .u8 0, .int .u8 0, .int .u8 0, .int .u8 0, .int .u8 0, .int .u8 0, .int .u8 0, .int .u8 0, .int .u8 0, .int .u8 0, .int .u8 0, .int .u8 0, .int .u8 0, .int .u8 0, .int .u8 0, .int .u8 0, .int .u8 0, .int .u8 0, .int .u8 0, .int .u8 0, .int .u8 0, .int .u8 0, .int .u8 0, .int .u8 0, .int .u8 0, .int .u8 0, .int .u8 0, .int .u8 0, .int .u8 0, .int .u8 0, .int .u8 0, .int .u8 0, .int .u8 0, .int .u8 0, .int .u8 0, .int .u8 0, .int .u8 0, .int .u8 0, .int .u8 0, .int .u8 0, .int .u8 0, .int .u8 0, .int .u8 0, .int .u8 0, .int .u8 0, .int .u8 0, .int .u8 0]; simpa using this
  refine pl_v (v := ?_) (w1 := w1.alloc (.cells #[.int .u8 0, .int .u8 0, .int .u8 0, .int .u8 0, .int .u8 0, .int .u8 0, .int .u8 0, .int .u8 0, .int .u8 0, .int .u8 0, .int .u8 0, .int .u8 0, .int .u8 0, .int .u8 0, .int .u8 0, .int .u8 0, .int .u8 0, .int .u8 0, .int .u8 0, .int .u8 0, .int .u8 0, .int .u8 0, .int .u8 0, .int .u8 0, .int .u8 0, .int .u8 0, .int .u8 0, .int .u8 0, .int .u8 0, .int .u8 0, .int .u8 0, .int .u8 0, .int .u8 0, .int .u8 0, .int .u8 0, .int .u8 0, .int .u8 0, .int .u8 0, .int .u8 0, .int .u8 0, .int .u8 0, .int .u8 0, .int .u8 0, .int .u8 0, .int .u8 0, .int .u8 0, .int .u8 0, .int .u8 0, .int .u8 0, .int .u8 0, .int .u8 0, .int .u8 0, .int .u8 0, .int .u8 0, .int .u8 0, .int .u8 0, .int .u8 0, .int .u8 0, .int .u8 0, .int .u8 0, .int .u8 0, .int .u8 0, .int .u8 0, .int .u8 0] 72)) (a' := ?_) rfl (by rfl) ?_ ?_ ?_
  rotate_left 2
  · go_simp; rfl
  · simp only [Act.put, List.setIfInBounds_toArray, List.set_cons_zero, List.set_cons_succ]; rfl
  refine pl_v (v := ?_) (w1 := (w1.alloc (.cells #[.int .u8 0, .int .u8 0, .int .u8 0, .int .u8 0, .int .u8 0, .int .u8 0, .int .u8 0, .int .u8 0, .int .u8 0, .int .u8 0, .int .u8 0, .int .u8 0, .int .u8 0, .int .u8 0, .int .u8 0, .int .u8 0, .int .u8 0, .int .u8 0, .int .u8 0, .int .u8 0, .int .u8 0, .int .u8 0, .int .u8 0, .int .u8 0, .int .u8 0, .int .u8 0, .int .u8 0, .int .u8 0, .int .u8 0, .int .u8 0, .int .u8 0, .int .u8 0, .int .u8 0, .int .u8 0, .int .u8 0, .int .u8 0, .int .u8 0, .int .u8 0, .int .u8 0, .int .u8 0, .int .u8 0, .int .u8 0, .int .u8 0, .int .u8 0, .int .u8 0, .int .u8 0, .int .u8 0, .int .u8 0, .int .u8 0, .int .u8 0, .int .u8 0, .int .u8 0, .int .u8 0, .int .u8 0, .int .u8 0, .int .u8 0, .int .u8 0, .int .u8 0, .int .u8 0, .int .u8 0, .int .u8 0, .int .u8 0, .int .u8 0, .int .u8 0] 72)).alloc (.cells #[.int .u8 0, .int .u8 0, .int .u8 0, .int .u8 0, .int .u8 0, .int .u8 0, .int .u8 0, .int .u8 0, .int .u8 0, .int .u8 0, .int .u8 0, .int .u8 0, .int .u8 0, .int .u8 0, .int .u8 0, .int .u8 0, .int .u8 0, .int .u8 0, .int .u8 0, .int .u8 0, .int .u8 0, .int .u8 0, .int .u8 0, .int .u8 0, .int .u8 0, .int .u8 0, .int .u8 0, .int .u8 0, .int .u8 0, .int .u8 0, .int .u8 0, .int .u8 0, .int .u8 0, .int .u8 0, .int .u8 0, .int .u8 0, .int .u8 0, .int .u8 0, .int .u8 0, .int .u8 0, .int .u8 0, .int .u8 0, .int .u8 0, .int .u8 0, .int .u8 0, .int .u8 0, .int .u8 0, .int .u8 0, .int .u8 0, .int .u8 0, .int .u8 0, .int .u8 0, .int .u8 0, .int .u8 0, .int .u8 0, .int .u8 0, .int .u8 0, .int .u8 0, .int .u8 0, .int .u8 0, .int .u8 0, .int .u8 0, .int .u8 0, .int .u8 0] 72)) (a' := ?_) rfl (by rfl) ?_ ?_ ?_
  rotate_left 2
  · go_simp; rfl
  · simp only [Act.put, List.setIfInBounds_toArray, List.set_cons_zero, List.set_cons_succ]; rfl
  rw [hw2e]
  obtain ⟨w3, hst3, BI3, hX3⟩ := over_row (C := CI) BI0 (by rw [szI]; rfl) (by rw [szI]; kernel_rfl) oneI
  have BO3 := hX3.blk BO0 (.inr (by omega))
  obtain ⟨w4, hst4, BO4, hX4⟩ := over_row (C := CO) BO3 (by rw [szO]; rfl) (by rw [szO]; kernel_rfl) oneO
  have BI4 := hX4.blk BI3 (.inl (by omega))
  have e14 : Ext w1 w4 := Exc.ext (Exc.ext e2 hX3 (Nat.le_refl _)) hX4 (by omega)
  obtain ⟨gi, hgi⟩ : ∃ z, w1.heap.size = z := ⟨_, rfl⟩
  obtain ⟨go, hgo⟩ : ∃ z, gi + 1 = z := ⟨_, rfl⟩
  rw [hgi] at BI4 BO4 hst3 hst4 ⊢
  rw [hgo] at BO4 hst4 ⊢
  refine pl_store (by rfl) rfl (run_op_store rfl ?_ ?_ hst3) ?_
  · rfl
  · rfl
  refine pl_store (by rfl) rfl (run_op_store rfl ?_ ?_ hst4) ?_
  · rfl
  · rfl
  refine wpList_nil ?_
  clear hst3 hst4 BI3 BO3 BI0 BO0 hX3 hX4 e2 hbl
  have e4 : Ext W w4 := hE1.trans e14
  have BR := BR.ext e4
  have ld1 := digest_any w4 (some ⟨gi, 0, none⟩) 64 ki A' c' b (hKW.ext e4) (hIW.ext e4) (by rw [LI.out]; exact sl_rows8 (by rw [HCI.out]; exact BI4) LI.out) (by rw [LI.out]; omega) (by rw [LI.out]; omega) (by rw [HM.out]; exact hSW.ext e4) (by rw [HM.out]; exact hc') (by rw [HM.out]; exact h0) (by rw [LI.out, HM.out]; omega) (by have := e4.le; omega)
  rw [LI.out, HM.out] at ld1
  obtain ⟨s, hs⟩ : ∃ s, shaB (ki ++ b) = s := ⟨_, rfl⟩
  have sl : s.length = 32 := by rw [← hs]; exact shaB_len _
  rw [hs] at ld1
  have HSS := Lib.hid hs
  obtain ⟨CS, hCS⟩ : ∃ C, macA s = C := ⟨_, rfl⟩
  have szS : CS.size = 32 := by rw [← hCS]; exact macA_size _
  have oneS : CS.all (·.oneCell') = true := by rw [← hCS]; exact macA_one _
  rw [hCS] at ld1
  have HCS := Lib.hid hCS
  clear hs hCS BI4
  go_upto_region 2 with fail
  refine wp_region_lit ?_
  iterate 2 (first | (refine pl_off (a' := ?_) rfl (by rfl) ?_ ?_; rotate_left 1; (· simp only [Act.put, List.setIfInBounds_toArray, List.set_cons_zero, List.set_cons_succ]; rfl)) | (refine pl_y (v := ?_) (a' := ?_) rfl (by rfl) ?_ ?_ ?_; rotate_left 2; (· go_simp; with_reducible rfl); (· simp only [Act.put, List.setIfInBounds_toArray, List.set_cons_zero, List.set_cons_succ]; rfl)))
  refine pl_call (args := ?_) Tryd.func49 (by kernel_rfl) rfl (by rfl) rfl rfl ?_ ?_
  rotate_left 1
  · go_simp; with_reducible rfl
  (with_reducible refine (ld1).mono ?_)
  rintro e w5 ⟨rfl, hE5⟩
  refine ⟨_, _, rfl, (by simp only [Act.put, List.setIfInBounds_toArray, List.set_cons_zero, List.set_cons_succ]; rfl), ?_⟩
  obtain ⟨w6, hst6, BS6, hE6⟩ := box_row w5 25 #[.int .u8 0, .int .u8 0, .int .u8 0, .int .u8 0, .int .u8 0, .int .u8 0, .int .u8 0, .int .u8 0, .int .u8 0, .int .u8 0, .int .u8 0, .int .u8 0, .int .u8 0, .int .u8 0, .int .u8 0, .int .u8 0, .int .u8 0, .int .u8 0, .int .u8 0, .int .u8 0, .int .u8 0, .int .u8 0, .int .u8 0, .int .u8 0, .int .u8 0, .int .u8 0, .int .u8 0, .int .u8 0, .int .u8 0, .int .u8 0, .int .u8 0, .int .u8 0] CS (by rw [szS]; rfl) (by rw [szS]; kernel_rfl) oneS
  refine pl_v (v := ?_) (w1 := ?_) (a' := ?_) rfl (by rfl) ?_ ?_ ?_
  rotate_left 3
  · go_simp; refine ⟨?_, ?_⟩ <;> with_reducible rfl
  · simp only [Act.put, List.setIfInBounds_toArray, List.set_cons_zero, List.set_cons_succ]; rfl
  obtain ⟨gs, hgs⟩ : ∃ z, w5.heap.size = z := ⟨_, rfl⟩
  rw [hgs] at hst6 BS6 ⊢
  refine pl_store (by rfl) rfl (run_op_store rfl ?_ ?_ hst6) ?_
  · rfl
  · rfl
  refine wpList_nil ?_
  have e6 : Ext W w6 := e4.trans (hE5.trans hE6)
  have BR := BR.ext (hE5.trans hE6)
  have BO6 := BO4.ext (hE5.trans hE6)
  have hps : gs < w6.heap.size := BS6.lt
  clear ld1 hst6 BO4
  have ld2 := fun (w' : World) (h : Ext w6 w') => digest_any w' (some ⟨go, 0, none⟩) 64 ko (some ⟨gs, 0, none⟩) 32 s (hKW.ext (e6.trans h)) (hIW.ext (e6.trans h)) (by rw [LO.out]; exact sl_rows8 (by rw [HCO.out]; exact BO6.ext h) LO.out) (by rw [LO.out]; omega) (by rw [LO.out]; omega) (by rw [sl]; exact macA_sl (by rw [HCS.out]; exact BS6.ext h) sl) (by rw [sl]; omega) (by rw [sl]; omega) (by rw [LO.out, sl]; omega) (by have := (e6.trans h).le; omega)
  rw [LO.out, sl] at ld2
  obtain ⟨CR, hCR⟩ : ∃ C, macA (shaB (ko ++ s)) = C := ⟨_, rfl⟩
  have szR : CR.size = 32 := by rw [← hCR]; exact macA_size _
  have oneR : CR.all (·.oneCell') = true := by rw [← hCR]; exact macA_one _
  rw [hCR] at ld2
  have HCR := Lib.hid hCR
  clear hCR
  go_upto_region 3 with fail
  refine wp_region_noPanic ?_
  refine tr_start (.y 0 (.y 1 (.e 2 (.e 3 .nil)))) (fun w' => Ext w6 w') (by kernel_rfl) (by as_aux_lemma => kernel_rfl) (fun _ _ _ _ _ h => h) ((Ext.refl _).drew) ?_
  iterate 2 (first | (refine tr_off (a' := ?_) rfl rfl (by rfl) ?_ ?_; rotate_left 1; (· simp only [Act.put, List.setIfInBounds_toArray, List.set_cons_zero, List.set_cons_succ]; rfl)) | (refine tr_y (v := ?_) (a' := ?_) rfl rfl (by rfl) (fun w' hw' => ?_) ?_ ?_; rotate_left 2; (· go_simp; with_reducible rfl); (· simp only [Act.put, List.setIfInBounds_toArray, List.set_cons_zero, List.set_cons_succ]; rfl)))
  refine tr_call (args := ?_) rfl Tryd.func49 (by kernel_rfl) rfl (by rfl) rfl rfl ?_ ?_
  rotate_left 1
  · go_simp; rfl
  (with_reducible refine (ld2 _ ((Ext.refl _).drew)).mono ?_)
  rintro e w7 ⟨rfl, hE7⟩
  refine ⟨_, _, rfl, (Ext.refl _).drew.trans hE7, (by simp only [Act.put, List.setIfInBounds_toArray, List.set_cons_zero, List.set_cons_succ]; rfl), ?_⟩
  obtain ⟨w8, hst8, BR8, hX8⟩ := over_row (C := CR) (BR.ext ((Ext.refl _).drew.trans hE7)) (by rw [szR]; rfl) (by rw [szR]; kernel_rfl) oneR
  refine tr_last (w1 := w8) rfl (by rfl) rfl (by kernel_rfl) (run_op_store rfl (by rfl) (by rfl) hst8) ?_
  refine NoPanic.normal ?_
  go_wp2_with fail
  refine bodyPost_ret (v := .agg CR) (results_cell_row (P := Tryd.prog) (fn := Tryd.f17) rfl _ w8 w.heap.size _ _ _ _ rfl BR8 Tryd.underlying25 rfl (by rw [szR]; kernel_rfl)) rfl ?_
  exact ⟨by rw [HSS.out, HCR.out], Exc.ext (eW.trans (e6.trans ((Ext.refl _).drew.trans hE7))) hX8 (Nat.le_refl _)⟩
set_option maxHeartbeats 9000000 in
set_option maxRecDepth 100000 in
theorem macChain_any (w : World) (s : List UInt8) (hs : s.length = 32) (A' : Option Addr) (c' : Nat) (b : List UInt8) (hK : KAt w) (hI : IAt w) (hS' : Rd.u8.Sl w A' b.length b) (hc' : b.length ≤ c') (h0 : 0 < b.length) (hb : b.length ≤ 1000000000) (hg : 1 < w.heap.size) :
    Calls Tryd.prog 21 #[.agg (macA s), .slice A' b.length c'] w fun e w' => e = .returned (.agg (macA (macB s b))) ∧ Ext w w' := by
  obtain ⟨W, hW, hE, bx, cx⟩ := box2 w (macA s) #[.int .u8 0, .int .u8 0, .int .u8 0, .int .u8 0, .int .u8 0, .int .u8 0, .int .u8 0, .int .u8 0, .int .u8 0, .int .u8 0, .int .u8 0, .int .u8 0, .int .u8 0, .int .u8 0, .int .u8 0, .int .u8 0, .int .u8 0, .int .u8 0, .int .u8 0, .int .u8 0, .int .u8 0, .int .u8 0, .int .u8 0, .int .u8 0, .int .u8 0, .int .u8 0, .int .u8 0, .int .u8 0, .int .u8 0, .int .u8 0, .int .u8 0, .int .u8 0] 25 25
  have B1 : Blk W w.heap.size 25 (macA s) := by rw [hW]; exact (Blk.new _ _ _).alloc _
  have BR : Blk W (w.heap.size + 1) 25 #[.int .u8 0, .int .u8 0, .int .u8 0, .int .u8 0, .int .u8 0, .int .u8 0, .int .u8 0, .int .u8 0, .int .u8 0, .int .u8 0, .int .u8 0, .int .u8 0, .int .u8 0, .int .u8 0, .int .u8 0, .int .u8 0, .int .u8 0, .int .u8 0, .int .u8 0, .int .u8 0, .int .u8 0, .int .u8 0, .int .u8 0, .int .u8 0, .int .u8 0, .int .u8 0, .int .u8 0, .int .u8 0, .int .u8 0, .int .u8 0, .int .u8 0, .int .u8 0] := by rw [hW]; have := Blk.new (w.alloc (.cells (macA s) 25)) 25 #[.int .u8 0, .int .u8 0, .int .u8 0, .int .u8 0, .int .u8 0, .int .u8 0, .int .u8 0, .int .u8 0, .int .u8 0, .int .u8 0, .int .u8 0, .int .u8 0, .int .u8 0, .int .u8 0, .int .u8 0, .int .u8 0, .int .u8 0, .int .u8 0, .int .u8 0, .int .u8 0, .int .u8 0, .int .u8 0, .int .u8 0, .int .u8 0, .int .u8 0, .int .u8 0, .int .u8 0, .int .u8 0, .int .u8 0, .int .u8 0, .int .u8 0, .int .u8 0]; simpa using this
  have hof := macOf_any W (some ⟨w.heap.size, 0, none⟩) 32 s A' c' b (hK.ext hE) (hI.ext hE) (by rw [hs]; exact macA_sl B1 hs) (by omega) (by omega) (hS'.ext hE) hc' h0 hb (by have := hE.le; omega)
  rw [hs] at hof
  obtain ⟨CR, hCR⟩ : ∃ C, macA (macB s b) = C := ⟨_, rfl⟩
  have szR : CR.size = 32 := by rw [← hCR]; exact macA_size _
  have oneR : CR.all (·.oneCell') = true := by rw [← hCR]; exact macA_one _
  rw [hCR] at hof ⊢
  obtain ⟨m, hbm⟩ : ∃ m, b.length = m := ⟨_, rfl⟩
  rw [hbm] at hof ⊢
  generalize macA s = MS at *
  clear hK hI hS' bx cx hCR hc' h0 hb hbm B1
  go_enter Tryd.func21, Tryd.ntmps21
  go_upto_region 1 with fail
  rw [← hW]
  clear hW
  refine wp_region_lit ?_
  iterate 2 (first | (refine pl_off (a' := ?_) rfl (by rfl) ?_ ?_; rotate_left 1; (· simp only [Act.put, List.setIfInBounds_toArray, List.set_cons_zero, List.set_cons_succ]; rfl)) | (refine pl_y (v := ?_) (a' := ?_) rfl (by rfl) ?_ ?_ ?_; rotate_left 2; (· go_simp; with_reducible rfl); (· simp only [Act.put, List.setIfInBounds_toArray, List.set_cons_zero, List.set_cons_succ]; rfl)))
  refine pl_call (args := ?_) Tryd.func17 (by kernel_rfl) rfl (by rfl) rfl rfl ?_ ?_
  rotate_left 1
  · go_simp; with_reducible rfl
  (with_reducible refine (hof).mono ?_)
  rintro e w1 ⟨rfl, hE1⟩
  refine ⟨_, _, rfl, (by simp only [Act.put, List.setIfInBounds_toArray, List.set_cons_zero, List.set_cons_succ]; rfl), ?_⟩
  obtain ⟨w2, hst, BR2, hX2⟩ := over_row (C := CR) (BR.ext hE1) (by rw [szR]; rfl) (by rw [szR]; kernel_rfl) oneR
  refine pl_store (by rfl) rfl (run_op_store rfl ?_ ?_ hst) ?_
  · rfl
  · rfl
  refine wpList_nil ?_
  go_wp2_with fail
  refine bodyPost_ret (v := .agg CR) (results_cell_row (P := Tryd.prog) (fn := Tryd.f21) rfl _ w2 (w.heap.size + 1) _ _ _ _ rfl BR2 Tryd.underlying25 rfl (by rw [szR]; kernel_rfl)) rfl ?_
  exact ⟨rfl, Exc.ext (hE.trans hE1) hX2 (by omega)⟩
end Go.Proofs.YtjcpgjnogcmalaaDoor

/-! Two codes compared by the program. -/
namespace Go.Proofs.YtjcpgjnogcmalaaDoor
set_option linter.unusedVariables false
set_option linter.unusedSimpArgs false
open Go.RowKit
theorem or_xor_zero (o a b : UInt8) : (o ||| (a ^^^ b)) = 0 ↔ o = 0 ∧ a = b := by
  constructor
  · intro h
    have h1 : o = 0 := by
      apply UInt8.toNat_inj.1
      have := congrArg UInt8.toNat h
      rw [UInt8.toNat_or] at this
      have := Nat.or_eq_zero_iff.1 this
      exact this.1
    have h2 : a ^^^ b = 0 := by
      apply UInt8.toNat_inj.1
      have := congrArg UInt8.toNat h
      rw [UInt8.toNat_or] at this
      have := Nat.or_eq_zero_iff.1 this
      exact this.2
    exact ⟨h1, UInt8.xor_eq_zero_iff.1 h2⟩
  · rintro ⟨rfl, rfl⟩
    simp
theorem b_xor (x y : UInt8) : bits .xor .u8 (x.toNat : Int) (y.toNat : Int) = ((x ^^^ y).toNat : Int) := by
  rw [u8_xor_nat _ _ x.toNat_lt y.toNat_lt, UInt8.toNat_xor]
theorem b_or (x y : UInt8) : bits .or .u8 (x.toNat : Int) (y.toNat : Int) = ((x ||| y).toNat : Int) := by
  rw [u8_or_nat _ _ x.toNat_lt y.toNat_lt, UInt8.toNat_or]
set_option maxHeartbeats 9000000 in
set_option maxRecDepth 100000 in
theorem macSame_any (w : World) (a b : List UInt8) (ha : a.length = 32) (hb : b.length = 32) : Calls Tryd.prog 45 #[.agg (macA a), .agg (macA b)] w fun e w' => e = .returned (.bool (decide (a = b))) ∧ Ext w w' := by
  obtain ⟨W, hW, hE, -, -⟩ := box2 w (macA a) (macA b) 25 25
  have B1 : Blk W w.heap.size 25 (macA a) := by rw [hW]; exact (Blk.new _ _ _).alloc _
  have B2 : Blk W (w.heap.size + 1) 25 (macA b) := by rw [hW]; have := Blk.new (w.alloc (.cells (macA a) 25)) 25 (macA b); simpa using this
  go_enter Tryd.func45, Tryd.ntmps45
  go_upto_region 1 with fail
  try rw [← hW]
  clear hW
  go_wp2_with fail
  go_loopw [5, 7] (fun s i wr => ∃ (j : Nat) (o : UInt8), j ≤ 32 ∧ i = .int .i64 j ∧ s = .int .u8 (o.toNat : Int) ∧ (o = 0 ↔ ∀ k, k < j → a.getD k 0 = b.getD k 0) ∧ Ext W wr) (fun _ i _ => 32 - (intOf i).toNat)
  case atStart => exact ⟨0, 0, by omega, rfl, rfl, by simp, Ext.refl _⟩
  case round =>
    obtain ⟨j, o, hj, rfl, rfl, ho, hE1⟩ := hrel
    have HO := Lib.hid ho
    clear ho
    by_cases hlt : j < 32
    · have y1 := hE1.cellk (B1.cell j (macA_at a j hlt))
      have y2 := hE1.cellk (B2.cell j (macA_at b j hlt))
      unfold mb at y1 y2
      have hx := b_xor (a.getD j 0) (b.getD j 0)
      have hoo := b_or o (a.getD j 0 ^^^ b.getD j 0)
      have hzz := or_xor_zero o (a.getD j 0) (b.getD j 0)
      have hnx : ∀ k, k < j + 1 → k = j ∨ k < j := fun k h => by omega
      have HJ : Hid (((o ||| (a.getD j 0 ^^^ b.getD j 0)) = 0) ↔ ∀ k, k < j + 1 → a.getD k 0 = b.getD k 0) := Lib.hid (by
        rw [hzz, HO.out]
        constructor
        · rintro ⟨h1, h2⟩ k hk
          rcases hnx k hk with rfl | h3
          · exact h2
          · exact h1 k h3
        · intro h
          exact ⟨fun k hk => h k (by omega), h j (by omega)⟩)
      clear hzz hnx
      generalize (o ||| (a.getD j 0 ^^^ b.getD j 0)) = o2 at *
      generalize a.getD j 0 ^^^ b.getD j 0 = xx at *
      generalize a.getD j 0 = xa at *
      generalize b.getD j 0 = xb at *
      have j32 : (j : Int) < 32 := by omega
      go_upto_region 5 with fail
      go_region
      go_wp2_with fail
      go_roundw
      case rel => exact ⟨j + 1, o2, by omega, by go_num, rfl, HJ.out, hE1.drew⟩
      case measure => simp [intOf]; omega
    · obtain rfl : j = 32 := by omega
      have hab : (o = 0) ↔ a = b := by
        rw [HO.out]
        constructor
        · intro h
          apply List.ext_getElem (by rw [ha, hb])
          intro i h1 h2
          have := h i (by omega)
          simpa [List.getD, h1, h2] using this
        · rintro rfl k _; rfl
      have hv : ((o.toNat : Int) == 0) = decide (a = b) := by
        rw [Bool.eq_iff_iff, beq_iff_eq, decide_eq_true_iff, ← hab]
        constructor
        · intro h; apply UInt8.toNat_inj.1; rw [show (0 : UInt8).toNat = 0 from rfl]; omega
        · rintro rfl; rfl
      have HV := Lib.hid hv
      clear hv hab
      go_wp2_with fail
      go_ret
      exact ⟨by rw [← HV.out]; rfl, hE.trans hE1⟩
end Go.Proofs.YtjcpgjnogcmalaaDoor
