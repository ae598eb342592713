/-
  Several texts in one: FoldI10, FoldI11, FoldI8, FoldI9.
-/
import Derived.Test.YthfinoapfbhgcaaDoorFoldZ
import Derived.Test.YthfinoapfbhgcaaDoorReg2
import Derived.Deep.DeepCutAuto
import Derived.Test.YthfinoapfbhgcaaDoorFoldSB
namespace Go.Proofs.YthfinoapfbhgcaaDoor
open Go.RowKit Go.ChangeShapes Go.WideShapes Go.Deep
set_option linter.unusedVariables false
set_option linter.unusedSimpArgs false
set_option maxRecDepth 100000 in
set_option maxHeartbeats 16000000 in
theorem impl_foldPart_8 (d : Nat) (n : Int) (name : ByteArray) (aop an : Int) (aname : ByteArray) (akids : List Ex) (bop bn : Int) (bname : ByteArray) (bkids : List Ex) (A : Option Addr) (p : Nat) (w : World) (lo B : Nat) (hB : B ≤ w.heap.size) (hn : I64 n) (hnm : name.size ≤ maxLen)
    (h3 : ∀ m, SlT m (exT m (d + 1)) w lo B [.mk aop an aname akids, .mk bop bn bname bkids] (.slice A 2 p)) (ra : aop = 1 → 0 ≤ an ∧ an ≤ 255) (rb : bop = 1 → 0 ≤ bn ∧ bn ≤ 255) (fa : formB 6 (.mk aop an aname akids) = true) (fb : formB 6 (.mk bop bn bname bkids) = true) (va : valE (.mk aop an aname akids) = true) (vb : valE (.mk bop bn bname bkids) = true) (ht : Tabs w) :
    Calls Tryd.prog 47 #[.agg #[.int .i64 8, .int .i64 n, .string name, .slice A 2 p]] w (FoldRP (d + 1) (foldTwo 8 (Ex.mk aop an aname akids) (Ex.mk bop bn bname bkids) (Ex.mk 8 n name [(Ex.mk aop an aname akids), (Ex.mk bop bn bname bkids)])) lo B w) := by
  obtain ⟨blk, op1, n1, nm1, k1, A3, p3, rfl, hlb, hbB, HL1, oa, na, sa, ha', c0, c1, c2, c3⟩ := exT_get d h3 (show 0 < 2 by omega)
  have e1 := HL1.out
  injection e1 with e1 e2 e3 e4
  subst e1 e2 e3 e4
  obtain ⟨blk', op2, n2, nm2, k2, A4, p4, hA, _, _, HL2, ob, nb, sb, hb', c4, c5, c6, c7⟩ := exT_get d h3 (show 1 < 2 by omega)
  injection hA with hA
  injection hA with hA
  subst hA
  have e1 := HL2.out
  injection e1 with e1 e2 e3 e4
  subst e1 e2 e3 e4
  have he : ∀ m, (exT m (d + 1 + 1)).rep w lo B (Ex.mk 8 n name [(Ex.mk aop an aname akids), (Ex.mk bop bn bname bkids)]) [.int .i64 8, .int .i64 n, .string name, .slice (some ⟨blk, 0, none⟩) 2 p] := fun m => exT_mk m (d + 1) 8 n name _ _ ⟨by omega, by omega⟩ hn hnm (h3 m)
  have ha : ∀ m, (exT m (d + 1 + 1)).rep w lo B (Ex.mk aop an aname akids) [.int .i64 aop, .int .i64 an, .string aname, .slice A3 akids.length p3] := fun m => exT_le m (Nat.le_succ _) (ha' m)
  have hb : ∀ m, (exT m (d + 1 + 1)).rep w lo B (Ex.mk bop bn bname bkids) [.int .i64 bop, .int .i64 bn, .string bname, .slice A4 bkids.length p4] := fun m => exT_le m (Nat.le_succ _) (hb' m)
  have ska : Sl false (exS false d) w lo B akids (.slice A3 akids.length p3) := (exT_kids d (ha' false)).exS
  have skb : Sl false (exS false d) w lo B bkids (.slice A4 bkids.length p4) := (exT_kids d (hb' false)).exS
  have h3s : Sl false (exS false (d + 1)) w lo B [(Ex.mk aop an aname akids), (Ex.mk bop bn bname bkids)] (.slice (some ⟨blk, 0, none⟩) 2 p) := (h3 false).exS
  clear ha' hb' h3 HL1 HL2
  obtain ⟨T, hTT⟩ : ∃ T, foldTwo 8 (Ex.mk aop an aname akids) (Ex.mk bop bn bname bkids) (Ex.mk 8 n name [(Ex.mk aop an aname akids), (Ex.mk bop bn bname bkids)]) = T := ⟨_, rfl⟩
  rw [hTT]
  have HTT := Lib.hid hTT
  clear hTT
  have hblk : blk < w.heap.size := by omega
  obtain ⟨vA0, hvA0⟩ : ∃ v, isN (Ex.mk aop an aname akids) 0 = v := ⟨_, rfl⟩
  obtain ⟨vA1, hvA1⟩ : ∃ v, isN (Ex.mk aop an aname akids) 1 = v := ⟨_, rfl⟩
  obtain ⟨vB0, hvB0⟩ : ∃ v, isN (Ex.mk bop bn bname bkids) 0 = v := ⟨_, rfl⟩
  obtain ⟨vB1, hvB1⟩ : ∃ v, isN (Ex.mk bop bn bname bkids) 1 = v := ⟨_, rfl⟩
  obtain ⟨vSA, hvSA⟩ : ∃ v, safeE 6 (Ex.mk aop an aname akids) = v := ⟨_, rfl⟩
  obtain ⟨vSB, hvSB⟩ : ∃ v, safeE 6 (Ex.mk bop bn bname bkids) = v := ⟨_, rfl⟩
  have HA0 := Lib.hid hvA0
  have HA1 := Lib.hid hvA1
  have HB0 := Lib.hid hvB0
  have HB1 := Lib.hid hvB1
  have HSA := Lib.hid hvSA
  have HSB := Lib.hid hvSB
  clear hvA0 hvA1 hvB0 hvB1 hvSA hvSB

  have HT := Lib.hid (fun (w9 : World) (h9 : Below w.heap.size w w9) => ht.below h9 (Nat.le_refl _))
  clear ht
  have HBSA : Hid (safB (Ex.mk aop an aname akids) = vSA) := by show _ = _; unfold safB; rw [va, HSA.out]; rfl
  have HBSB : Hid (safB (Ex.mk bop bn bname bkids) = vSB) := by show _ = _; unfold safB; rw [vb, HSB.out]; rfl
  replace va := Lib.hid va
  replace vb := Lib.hid vb
  clear fa fb
  have hw : Below w.heap.size w ((w.alloc (.cells #[.int .i64 8, .int .i64 n, .string name, .slice (some ⟨blk, 0, none⟩) 2 p] 25)).alloc (.cells #[.int .i64 0, .int .i64 0, .string ⟨#[]⟩, .slice none 0 0] 25)) := ((Below.refl _ _).alloc (Nat.le_refl _) _).alloc (by simp) _
  have RE : Row _ w.heap.size 25 #[.int .i64 8, .int .i64 n, .string name, .slice (some ⟨blk, 0, none⟩) 2 p] := (Row.new w _ _).alloc (.cells #[.int .i64 0, .int .i64 0, .string ⟨#[]⟩, .slice none 0 0] 25)
  have RR : Row ((w.alloc (.cells #[.int .i64 8, .int .i64 n, .string name, .slice (some ⟨blk, 0, none⟩) 2 p] 25)).alloc (.cells #[.int .i64 0, .int .i64 0, .string ⟨#[]⟩, .slice none 0 0] 25)) (w.heap.size + 1) 25 #[.int .i64 0, .int .i64 0, .string ⟨#[]⟩, .slice none 0 0] := by simpa using Row.new (w.alloc (.cells #[.int .i64 8, .int .i64 n, .string name, .slice (some ⟨blk, 0, none⟩) 2 p] 25)) 25 #[.int .i64 0, .int .i64 0, .string ⟨#[]⟩, .slice none 0 0]
  obtain ⟨k0, k1, k2, k3, k4, k5, k6, k7⟩ := kids8 hw hblk c0 c1 c2 c3 c4 c5 c6 c7
  have g_0 := RE.cell 3
  obtain ⟨L, hL⟩ : ∃ L : List (Addr × Value), [(⟨w.heap.size, 3, none⟩, .slice (some ⟨blk, 0, none⟩) 2 p), (⟨blk, 0, none⟩, .int .i64 aop), (⟨blk, 1, none⟩, .int .i64 an), (⟨blk, 2, none⟩, .string aname), (⟨blk, 3, none⟩, .slice A3 akids.length p3), (⟨blk, 4, none⟩, .int .i64 bop), (⟨blk, 5, none⟩, .int .i64 bn), (⟨blk, 6, none⟩, .string bname), (⟨blk, 7, none⟩, .slice A4 bkids.length p4)] = L := ⟨_, rfl⟩
  have HG : Hid (Has ((w.alloc (.cells #[.int .i64 8, .int .i64 n, .string name, .slice (some ⟨blk, 0, none⟩) 2 p] 25)).alloc (.cells #[.int .i64 0, .int .i64 0, .string ⟨#[]⟩, .slice none 0 0] 25)) L) := by
    subst hL
    exact .cons (RE.cell 3) (.cons k0 (.cons k1 (.cons k2 (.cons k3 (.cons k4 (.cons k5 (.cons k6 (.cons k7 .nil))))))))
  have HLT : Hid (∀ x ∈ L, x.1.block < w.heap.size + 2) := by
    subst hL
    exact lcons (by dsimp only; omega) (lcons (by dsimp only; omega) (lcons (by dsimp only; omega) (lcons (by dsimp only; omega) (lcons (by dsimp only; omega) (lcons (by dsimp only; omega) (lcons (by dsimp only; omega) (lcons (by dsimp only; omega) (lcons (by dsimp only; omega) (lnil)))))))))
  replace hL := Lib.hid hL.symm
  have HL := hL
  clear hL
  clear c0 c1 c2 c3 c4 c5 c6 c7
  go_enter Tryd.func47, Tryd.ntmps47
  go_wp2_with fail
  go_cut [3, 4] (fun s3 s4 wx => ∃ ga gb : Nat, s3 = .pointer (some ⟨ga, 0, none⟩) ∧ s4 = .pointer (some ⟨gb, 0, none⟩) ∧ Row wx ga 25 #[.int .i64 aop, .int .i64 an, .string aname, .slice A3 akids.length p3] ∧ Row wx gb 25 #[.int .i64 bop, .int .i64 bn, .string bname, .slice A4 bkids.length p4] ∧ w.heap.size + 1 < ga ∧ w.heap.size + 1 < gb ∧ Below (w.heap.size + 2) ((w.alloc (.cells #[.int .i64 8, .int .i64 n, .string name, .slice (some ⟨blk, 0, none⟩) 2 p] 25)).alloc (.cells #[.int .i64 0, .int .i64 0, .string ⟨#[]⟩, .slice none 0 0] 25)) wx)
  case first =>
   refine wp_region_held_drew (S := fun w' => Has w' L) (by kernel_rfl) ?_ (fun hHeld => ?_)
   · exact HG.out
   have udd : Below (w.heap.size + 2) ((w.alloc (.cells #[.int .i64 8, .int .i64 n, .string name, .slice (some ⟨blk, 0, none⟩) 2 p] 25)).alloc (.cells #[.int .i64 0, .int .i64 0, .string ⟨#[]⟩, .slice none 0 0] 25)) ((w.alloc (.cells #[.int .i64 8, .int .i64 n, .string name, .slice (some ⟨blk, 0, none⟩) 2 p] 25)).alloc (.cells #[.int .i64 0, .int .i64 0, .string ⟨#[]⟩, .slice none 0 0] 25)).drew := (Below.refl _ _).drew
   have hsd : w.heap.size + 2 ≤ ((w.alloc (.cells #[.int .i64 8, .int .i64 n, .string name, .slice (some ⟨blk, 0, none⟩) 2 p] 25)).alloc (.cells #[.int .i64 0, .int .i64 0, .string ⟨#[]⟩, .slice none 0 0] 25)).drew.heap.size := by show _ ≤ ((w.alloc (.cells #[.int .i64 8, .int .i64 n, .string name, .slice (some ⟨blk, 0, none⟩) 2 p] 25)).alloc (.cells #[.int .i64 0, .int .i64 0, .string ⟨#[]⟩, .slice none 0 0] 25)).heap.size; simp
   have h : Has ((w.alloc (.cells #[.int .i64 8, .int .i64 n, .string name, .slice (some ⟨blk, 0, none⟩) 2 p] 25)).alloc (.cells #[.int .i64 0, .int .i64 0, .string ⟨#[]⟩, .slice none 0 0] 25)).drew L := HG.out
   generalize ((w.alloc (.cells #[.int .i64 8, .int .i64 n, .string name, .slice (some ⟨blk, 0, none⟩) 2 p] 25)).alloc (.cells #[.int .i64 0, .int .i64 0, .string ⟨#[]⟩, .slice none 0 0] 25)).drew = wd at udd hsd hHeld h ⊢
   have h9 := h.nine HL.out
   dsimp only at h9
   obtain ⟨h_0, h_1, h_2, h_3, h_4, h_5, h_6, h_7, h_8⟩ := h9
   refine reg_take (i := 0) (v := ?v1) rfl (by kernel_rfl) (by kernel_rfl) (by kernel_rfl) (fun _ _ _ h => h) (Or.inl ⟨by kernel_rfl, ?h1⟩) (by assumption) ?r1
   case h1 => (intro w hSw; have hSw := Has.nine hSw HL.out; dsimp only at hSw; go_simp; try with_reducible rfl)
   try simp only [Act.put, List.setIfInBounds_toArray, List.set_cons_zero, List.set_cons_succ]
   refine reg_take (i := 1) (v := ?v2) rfl (by kernel_rfl) (by kernel_rfl) (by kernel_rfl) (fun _ _ _ h => h) (Or.inl ⟨by kernel_rfl, ?h2⟩) (by assumption) ?r2
   case h2 => (intro w hSw; have hSw := Has.nine hSw HL.out; dsimp only at hSw; go_simp; try with_reducible rfl)
   try simp only [Act.put, List.setIfInBounds_toArray, List.set_cons_zero, List.set_cons_succ]
   refine reg_take (i := 2) (v := ?v3) rfl (by kernel_rfl) (by kernel_rfl) (by kernel_rfl) (fun _ _ _ h => h) (Or.inl ⟨by kernel_rfl, ?h3⟩) (by assumption) ?r3
   case h3 => (intro w hSw; have hSw := Has.nine hSw HL.out; dsimp only at hSw; go_simp; try with_reducible rfl)
   try simp only [Act.put, List.setIfInBounds_toArray, List.set_cons_zero, List.set_cons_succ]
   refine reg_take (i := 3) (v := ?v4) rfl (by kernel_rfl) (by kernel_rfl) (by kernel_rfl) (fun _ _ _ h => h) (Or.inl ⟨by kernel_rfl, ?h4⟩) (by assumption) ?r4
   case h4 => (intro w hSw; have hSw := Has.nine hSw HL.out; dsimp only at hSw; go_simp; try with_reducible rfl)
   try simp only [Act.put, List.setIfInBounds_toArray, List.set_cons_zero, List.set_cons_succ]
   refine reg_take (i := 4) (v := ?v5) rfl (by kernel_rfl) (by kernel_rfl) (by kernel_rfl) (fun _ _ _ h => h) (Or.inl ⟨by kernel_rfl, ?h5⟩) (by assumption) ?r5
   case h5 => (intro w hSw; have hSw := Has.nine hSw HL.out; dsimp only at hSw; go_simp; try with_reducible rfl)
   try simp only [Act.put, List.setIfInBounds_toArray, List.set_cons_zero, List.set_cons_succ]
   refine reg_take (i := 5) (v := ?v6) rfl (by kernel_rfl) (by kernel_rfl) (by kernel_rfl) (fun _ _ _ h => h) (Or.inl ⟨by kernel_rfl, ?h6⟩) (by assumption) ?r6
   case h6 => (intro w hSw; have hSw := Has.nine hSw HL.out; dsimp only at hSw; go_simp; try with_reducible rfl)
   try simp only [Act.put, List.setIfInBounds_toArray, List.set_cons_zero, List.set_cons_succ]
   refine reg_take (i := 6) (v := ?v7) rfl (by kernel_rfl) (by kernel_rfl) (by kernel_rfl) (fun _ _ _ h => h) (Or.inl ⟨by kernel_rfl, ?h7⟩) (by assumption) ?r7
   case h7 => (intro w hSw; have hSw := Has.nine hSw HL.out; dsimp only at hSw; go_simp; try with_reducible rfl)
   try simp only [Act.put, List.setIfInBounds_toArray, List.set_cons_zero, List.set_cons_succ]
   refine reg_take (i := 7) (v := ?v8) rfl (by kernel_rfl) (by kernel_rfl) (by kernel_rfl) (fun _ _ _ h => h) (Or.inl ⟨by kernel_rfl, ?h8⟩) (by assumption) ?r8
   case h8 => (intro w hSw; have hSw := Has.nine hSw HL.out; dsimp only at hSw; go_simp; try with_reducible rfl)
   try simp only [Act.put, List.setIfInBounds_toArray, List.set_cons_zero, List.set_cons_succ]
   refine reg_take (i := 8) (v := ?v9) rfl (by kernel_rfl) (by kernel_rfl) (by kernel_rfl) (fun _ _ _ h => h) (Or.inl ⟨by kernel_rfl, ?h9⟩) (by assumption) ?r9
   case h9 => (intro w hSw; have hSw := Has.nine hSw HL.out; dsimp only at hSw; go_simp; try with_reducible rfl)
   try simp only [Act.put, List.setIfInBounds_toArray, List.set_cons_zero, List.set_cons_succ]
   refine reg_take (i := 9) (v := .int .i64 1) rfl (by kernel_rfl) (by kernel_rfl) (by kernel_rfl) (fun _ _ _ h => h) (Or.inl ⟨by kernel_rfl, ?h10⟩) (by assumption) ?r10
   case h10 => (intro w hSw; have hSw := Has.nine hSw HL.out; dsimp only at hSw; go_simp; try rfl)
   try simp only [Act.put, List.setIfInBounds_toArray, List.set_cons_zero, List.set_cons_succ]
   refine reg_take (i := 10) (v := ?v11) rfl (by kernel_rfl) (by kernel_rfl) (by kernel_rfl) (fun _ _ _ h => h) (Or.inl ⟨by kernel_rfl, ?h11⟩) (by assumption) ?r11
   case h11 => (intro w hSw; have hSw := Has.nine hSw HL.out; dsimp only at hSw; go_simp; try with_reducible rfl)
   try simp only [Act.put, List.setIfInBounds_toArray, List.set_cons_zero, List.set_cons_succ]
   refine reg_take (i := 11) (v := ?v12) rfl (by kernel_rfl) (by kernel_rfl) (by kernel_rfl) (fun _ _ _ h => h) (Or.inl ⟨by kernel_rfl, ?h12⟩) (by assumption) ?r12
   case h12 => (intro w hSw; have hSw := Has.nine hSw HL.out; dsimp only at hSw; go_simp; try with_reducible rfl)
   try simp only [Act.put, List.setIfInBounds_toArray, List.set_cons_zero, List.set_cons_succ]
   refine reg_call2 (i := 12) (j := 13) (by kernel_rfl) rfl rfl (fun K hK => ?_) (fun K hK => ?_)
   · go_simp
     have u1 := (Below.refl _ wd).alloc hsd (.cells #[.int .i64 0, .int .i64 0, .string ⟨#[]⟩, .slice none 0 0] 25)
     refine hK.out _ _ ?_ (fun hHeld => ?_)
     · exact h.below u1 HLT.out
     clear hK K
     try simp only [Act.put, List.setIfInBounds_toArray, List.set_cons_zero, List.set_cons_succ]
     refine reg_call (i := 13) (by kernel_rfl) rfl (fun K hK => ?_)
     go_simp
     have u2 := u1.alloc (by simp; omega) (.cells #[.int .i64 0, .int .i64 0, .string ⟨#[]⟩, .slice none 0 0] 25)
     refine hK.out _ _ ?_ (fun hHeld => ?_)
     · exact h.below u2 HLT.out
     clear hK K
     try simp only [Act.put, List.setIfInBounds_toArray, List.set_cons_zero, List.set_cons_succ]
     have q0 : Row _ wd.heap.size 25 #[.int .i64 0, .int .i64 0, .string ⟨#[]⟩, .slice none 0 0] := (Row.new wd _ _).alloc (.cells #[.int .i64 0, .int .i64 0, .string ⟨#[]⟩, .slice none 0 0] 25)
     have q1 : Row ((wd.alloc (.cells #[.int .i64 0, .int .i64 0, .string ⟨#[]⟩, .slice none 0 0] 25)).alloc (.cells #[.int .i64 0, .int .i64 0, .string ⟨#[]⟩, .slice none 0 0] 25)) (wd.heap.size + 1) 25 #[.int .i64 0, .int .i64 0, .string ⟨#[]⟩, .slice none 0 0] := by simpa using Row.new (wd.alloc (.cells #[.int .i64 0, .int .i64 0, .string ⟨#[]⟩, .slice none 0 0] 25)) 25 #[.int .i64 0, .int .i64 0, .string ⟨#[]⟩, .slice none 0 0]
     generalize ((wd.alloc (.cells #[.int .i64 0, .int .i64 0, .string ⟨#[]⟩, .slice none 0 0] 25)).alloc (.cells #[.int .i64 0, .int .i64 0, .string ⟨#[]⟩, .slice none 0 0] 25)) = wv at u2 q0 q1 hHeld ⊢
     clear u1
     obtain ⟨m0, m1, m2, m3, n0, n1, n2, n3⟩ := cells8 q0
     refine reg_call (i := 14) (by kernel_rfl) rfl (fun K hK => ?_)
     go_simp
     have u4 := ((((u2.setCell (p := ⟨wd.heap.size, 0, none⟩) hsd (.int .i64 aop)).setCell (p := ⟨wd.heap.size, 1, none⟩) hsd (.int .i64 an)).setCell (p := ⟨wd.heap.size, 2, none⟩) hsd (.string aname)).setCell (p := ⟨wd.heap.size, 3, none⟩) hsd (.slice A3 akids.length p3))
     refine hK.out _ _ ?_ (fun hHeld => ?_)
     · exact h.below u4 HLT.out
     clear hK K
     try simp only [Act.put, List.setIfInBounds_toArray, List.set_cons_zero, List.set_cons_succ]
     have r0 : Row _ (wd.heap.size) 25 #[.int .i64 aop, .int .i64 an, .string aname, .slice A3 akids.length p3] := (((q0.set_ 0 (.int .i64 aop)).set_ 1 (.int .i64 an)).set_ 2 (.string aname)).set_ 3 (.slice A3 akids.length p3)
     have hne : wd.heap.size + 1 ≠ wd.heap.size := by omega
     have r1 := ((((q1.far (p := ⟨wd.heap.size, 0, none⟩) hne (.int .i64 aop)).far (p := ⟨wd.heap.size, 1, none⟩) hne (.int .i64 an)).far (p := ⟨wd.heap.size, 2, none⟩) hne (.string aname)).far (p := ⟨wd.heap.size, 3, none⟩) hne (.slice A3 akids.length p3))
     generalize ((((wv.setCell ⟨wd.heap.size, 0, none⟩ (.int .i64 aop)).setCell ⟨wd.heap.size, 1, none⟩ (.int .i64 an)).setCell ⟨wd.heap.size, 2, none⟩ (.string aname)).setCell ⟨wd.heap.size, 3, none⟩ (.slice A3 akids.length p3)) = wy at u4 r0 r1 hHeld ⊢
     clear u2 m0 m1 m2 m3 n0 n1 n2 n3
     obtain ⟨m0, m1, m2, m3, n0, n1, n2, n3⟩ := cells8 r1
     refine reg_call (i := 15) (by kernel_rfl) rfl (fun K hK => ?_)
     go_simp
     have u6 := ((((u4.setCell (p := ⟨wd.heap.size + 1, 0, none⟩) (Nat.le_succ_of_le hsd) (.int .i64 bop)).setCell (p := ⟨wd.heap.size + 1, 1, none⟩) (Nat.le_succ_of_le hsd) (.int .i64 bn)).setCell (p := ⟨wd.heap.size + 1, 2, none⟩) (Nat.le_succ_of_le hsd) (.string bname)).setCell (p := ⟨wd.heap.size + 1, 3, none⟩) (Nat.le_succ_of_le hsd) (.slice A4 bkids.length p4))
     refine hK.out _ _ ?_ (fun hHeld => ?_)
     · exact h.below u6 HLT.out
     clear hK K
     try simp only [Act.put, List.setIfInBounds_toArray, List.set_cons_zero, List.set_cons_succ]
     have t0 : Row _ (wd.heap.size + 1) 25 #[.int .i64 bop, .int .i64 bn, .string bname, .slice A4 bkids.length p4] := (((r1.set_ 0 (.int .i64 bop)).set_ 1 (.int .i64 bn)).set_ 2 (.string bname)).set_ 3 (.slice A4 bkids.length p4)
     replace hne := hne.symm
     have t1 := ((((r0.far (p := ⟨wd.heap.size + 1, 0, none⟩) hne (.int .i64 bop)).far (p := ⟨wd.heap.size + 1, 1, none⟩) hne (.int .i64 bn)).far (p := ⟨wd.heap.size + 1, 2, none⟩) hne (.string bname)).far (p := ⟨wd.heap.size + 1, 3, none⟩) hne (.slice A4 bkids.length p4))
     refine wpAnyH_done (by kernel_rfl) ?_ _
     go_wp2_with fail
     go_meet
     case rel => exact ⟨_, _, rfl, rfl, t1, t0, by omega, by omega, udd.trans u6⟩
   · go_simp
     have u1 := (Below.refl _ wd).alloc hsd (.cells #[.int .i64 0, .int .i64 0, .string ⟨#[]⟩, .slice none 0 0] 25)
     refine hK.out _ _ ?_ (fun hHeld => ?_)
     · exact h.below u1 HLT.out
     clear hK K
     try simp only [Act.put, List.setIfInBounds_toArray, List.set_cons_zero, List.set_cons_succ]
     refine reg_call (i := 12) (by kernel_rfl) rfl (fun K hK => ?_)
     go_simp
     have u2 := u1.alloc (by simp; omega) (.cells #[.int .i64 0, .int .i64 0, .string ⟨#[]⟩, .slice none 0 0] 25)
     refine hK.out _ _ ?_ (fun hHeld => ?_)
     · exact h.below u2 HLT.out
     clear hK K
     try simp only [Act.put, List.setIfInBounds_toArray, List.set_cons_zero, List.set_cons_succ]
     have q0 : Row _ wd.heap.size 25 #[.int .i64 0, .int .i64 0, .string ⟨#[]⟩, .slice none 0 0] := (Row.new wd _ _).alloc (.cells #[.int .i64 0, .int .i64 0, .string ⟨#[]⟩, .slice none 0 0] 25)
     have q1 : Row ((wd.alloc (.cells #[.int .i64 0, .int .i64 0, .string ⟨#[]⟩, .slice none 0 0] 25)).alloc (.cells #[.int .i64 0, .int .i64 0, .string ⟨#[]⟩, .slice none 0 0] 25)) (wd.heap.size + 1) 25 #[.int .i64 0, .int .i64 0, .string ⟨#[]⟩, .slice none 0 0] := by simpa using Row.new (wd.alloc (.cells #[.int .i64 0, .int .i64 0, .string ⟨#[]⟩, .slice none 0 0] 25)) 25 #[.int .i64 0, .int .i64 0, .string ⟨#[]⟩, .slice none 0 0]
     generalize ((wd.alloc (.cells #[.int .i64 0, .int .i64 0, .string ⟨#[]⟩, .slice none 0 0] 25)).alloc (.cells #[.int .i64 0, .int .i64 0, .string ⟨#[]⟩, .slice none 0 0] 25)) = wv at u2 q0 q1 hHeld ⊢
     clear u1
     obtain ⟨m0, m1, m2, m3, n0, n1, n2, n3⟩ := cells8 q1
     refine reg_call (i := 14) (by kernel_rfl) rfl (fun K hK => ?_)
     go_simp
     have u4 := ((((u2.setCell (p := ⟨wd.heap.size + 1, 0, none⟩) (Nat.le_succ_of_le hsd) (.int .i64 aop)).setCell (p := ⟨wd.heap.size + 1, 1, none⟩) (Nat.le_succ_of_le hsd) (.int .i64 an)).setCell (p := ⟨wd.heap.size + 1, 2, none⟩) (Nat.le_succ_of_le hsd) (.string aname)).setCell (p := ⟨wd.heap.size + 1, 3, none⟩) (Nat.le_succ_of_le hsd) (.slice A3 akids.length p3))
     refine hK.out _ _ ?_ (fun hHeld => ?_)
     · exact h.below u4 HLT.out
     clear hK K
     try simp only [Act.put, List.setIfInBounds_toArray, List.set_cons_zero, List.set_cons_succ]
     have r0 : Row _ (wd.heap.size + 1) 25 #[.int .i64 aop, .int .i64 an, .string aname, .slice A3 akids.length p3] := (((q1.set_ 0 (.int .i64 aop)).set_ 1 (.int .i64 an)).set_ 2 (.string aname)).set_ 3 (.slice A3 akids.length p3)
     have hne : wd.heap.size ≠ wd.heap.size + 1 := by omega
     have r1 := ((((q0.far (p := ⟨wd.heap.size + 1, 0, none⟩) hne (.int .i64 aop)).far (p := ⟨wd.heap.size + 1, 1, none⟩) hne (.int .i64 an)).far (p := ⟨wd.heap.size + 1, 2, none⟩) hne (.string aname)).far (p := ⟨wd.heap.size + 1, 3, none⟩) hne (.slice A3 akids.length p3))
     generalize ((((wv.setCell ⟨wd.heap.size + 1, 0, none⟩ (.int .i64 aop)).setCell ⟨wd.heap.size + 1, 1, none⟩ (.int .i64 an)).setCell ⟨wd.heap.size + 1, 2, none⟩ (.string aname)).setCell ⟨wd.heap.size + 1, 3, none⟩ (.slice A3 akids.length p3)) = wy at u4 r0 r1 hHeld ⊢
     clear u2 m0 m1 m2 m3 n0 n1 n2 n3
     obtain ⟨m0, m1, m2, m3, n0, n1, n2, n3⟩ := cells8 r1
     refine reg_call (i := 15) (by kernel_rfl) rfl (fun K hK => ?_)
     go_simp
     have u6 := ((((u4.setCell (p := ⟨wd.heap.size, 0, none⟩) hsd (.int .i64 bop)).setCell (p := ⟨wd.heap.size, 1, none⟩) hsd (.int .i64 bn)).setCell (p := ⟨wd.heap.size, 2, none⟩) hsd (.string bname)).setCell (p := ⟨wd.heap.size, 3, none⟩) hsd (.slice A4 bkids.length p4))
     refine hK.out _ _ ?_ (fun hHeld => ?_)
     · exact h.below u6 HLT.out
     clear hK K
     try simp only [Act.put, List.setIfInBounds_toArray, List.set_cons_zero, List.set_cons_succ]
     have t0 : Row _ (wd.heap.size) 25 #[.int .i64 bop, .int .i64 bn, .string bname, .slice A4 bkids.length p4] := (((r1.set_ 0 (.int .i64 bop)).set_ 1 (.int .i64 bn)).set_ 2 (.string bname)).set_ 3 (.slice A4 bkids.length p4)
     replace hne := hne.symm
     have t1 := ((((r0.far (p := ⟨wd.heap.size, 0, none⟩) hne (.int .i64 bop)).far (p := ⟨wd.heap.size, 1, none⟩) hne (.int .i64 bn)).far (p := ⟨wd.heap.size, 2, none⟩) hne (.string bname)).far (p := ⟨wd.heap.size, 3, none⟩) hne (.slice A4 bkids.length p4))
     refine wpAnyH_done (by kernel_rfl) ?_ _
     go_wp2_with fail
     go_meet
     case rel => exact ⟨_, _, rfl, rfl, t1, t0, by omega, by omega, udd.trans u6⟩
  case rest =>
   obtain ⟨ga, gb, rfl, rfl, RA, RB, hga, hgb, hbc⟩ := hcut
   replace hw : Below w.heap.size w wc := hw.trans (hbc.mono (by omega))
   replace RE := RE.below hbc (by omega)
   replace RR := RR.below hbc (by omega)
   clear hbc HG HL HLT g_0 k0 k1 k2 k3 k4 k5 k6 k7
   by_cases qa : aop = 1
   case neg =>
    have qa' : (aop == 1) = false := by simpa using qa
    have HN : Hid (numB 8 (Ex.mk aop an aname akids) (Ex.mk bop bn bname bkids) = false) := by show _ = _; simp [numB, Ex.op, qa]
    clear qa
    obtain ⟨s0, s1, s2, s3, f0, f1, f2, f3⟩ := cells8 RR
    obtain ⟨y0, y1, y2, y3, y4, y5, y6, y7, y8, y9, ya, yb⟩ := cells12 RE RA RB
    have F := leaf_fin (f := T) hw hB (Nat.le_succ _) RR he (by rw [← HTT.out]; unfold foldTwo; simp [HN.out])
    go_wp2_with fail
    refine bodyPost_ret (by simp [results, Tryd.results47, go_sem, s0, s1, s2, s3]) rfl F.out
   by_cases qb : bop = 1
   case neg =>
    have qb' : (bop == 1) = false := by simpa using qb
    have HN : Hid (numB 8 (Ex.mk aop an aname akids) (Ex.mk bop bn bname bkids) = false) := by show _ = _; simp [numB, Ex.op, qb]
    subst qa
    clear qb
    obtain ⟨s0, s1, s2, s3, f0, f1, f2, f3⟩ := cells8 RR
    obtain ⟨y0, y1, y2, y3, y4, y5, y6, y7, y8, y9, ya, yb⟩ := cells12 RE RA RB
    have F := leaf_fin (f := T) hw hB (Nat.le_succ _) RR he (by rw [← HTT.out]; unfold foldTwo; simp [HN.out])
    go_wp2_with fail
    refine bodyPost_ret (by simp [results, Tryd.results47, go_sem, s0, s1, s2, s3]) rfl F.out
   subst qa qb
   obtain ⟨an0, an1⟩ := ra rfl
   obtain ⟨bn0, bn1⟩ := rb rfl
   clear ra rb
   have hv : (arV 8 an bn).2 = true := by simp [arV]
   have HN : Hid (numB 8 (Ex.mk 1 an aname akids) (Ex.mk 1 bn bname bkids) = true) := by show _ = _; simp [numB, Ex.op, Ex.n, hv]
   have HV := Lib.hid hv
   have hI : I64 (arV 8 an bn).1 := by
     have := arV_range (op := 8) an0 an1 bn0 bn1
     exact ⟨by omega, by omega⟩
   clear hv
   obtain ⟨y0, y1, y2, y3, y4, y5, y6, y7, y8, y9, ya, yb⟩ := cells12 RE RA RB
   go_wp2_with fail
   refine (impl_arith 8 an bn _ an0 an1 bn0 bn1).mono ?_
   rw [HV.out]
   rintro e w6 ⟨rfl, hw6⟩
   subst hw6
   clear y0 y1 y2 y3 y4 y5 y6 y7 y8 y9 ya yb
   obtain ⟨y0, y1, y2, y3, y4, y5, y6, y7, y8, y9, ya, yb⟩ := cells12 RE RA RB
   go_wp2_with fail
   refine (impl_num (d + 1) ((arV 8 an bn).1) _ hI).mono ?_
   rintro e w6 ⟨An, cn, rfl, hnr, x6⟩
   clear y0 y1 y2 y3 y4 y5 y6 y7 y8 y9 ya yb
   replace hw := hw.trans (x6.mono hw.size)
   replace RE := RE.below x6 RE.lt
   replace RR := RR.below x6 RR.lt
   replace RA := RA.below x6 RA.lt
   replace RB := RB.below x6 RB.lt
   obtain ⟨s0, s1, s2, s3, f0, f1, f2, f3⟩ := cells8 RR
   obtain ⟨y0, y1, y2, y3, y4, y5, y6, y7, y8, y9, ya, yb⟩ := cells12 RE RA RB
   have F := leaf_fin (f := T) hw hB (Nat.le_succ _) RR (hnr w lo B) (show T = exN1 ((arV 8 an bn).1) by rw [← HTT.out]; unfold foldTwo; rw [if_pos HN.out]; rfl)
   go_wp2_with fail
   refine bodyPost_ret (by simp [results, Tryd.results47, go_sem, s0, s1, s2, s3]) rfl F.out
end Go.Proofs.YthfinoapfbhgcaaDoor

namespace Go.Proofs.YthfinoapfbhgcaaDoor
open Go.RowKit Go.ChangeShapes Go.WideShapes Go.Deep
set_option linter.unusedVariables false
set_option linter.unusedSimpArgs false
set_option maxRecDepth 100000 in
set_option maxHeartbeats 16000000 in
theorem impl_foldPart_9 (d : Nat) (n : Int) (name : ByteArray) (aop an : Int) (aname : ByteArray) (akids : List Ex) (bop bn : Int) (bname : ByteArray) (bkids : List Ex) (A : Option Addr) (p : Nat) (w : World) (lo B : Nat) (hB : B ≤ w.heap.size) (hn : I64 n) (hnm : name.size ≤ maxLen)
    (h3 : ∀ m, SlT m (exT m (d + 1)) w lo B [.mk aop an aname akids, .mk bop bn bname bkids] (.slice A 2 p)) (ra : aop = 1 → 0 ≤ an ∧ an ≤ 255) (rb : bop = 1 → 0 ≤ bn ∧ bn ≤ 255) (fa : formB 6 (.mk aop an aname akids) = true) (fb : formB 6 (.mk bop bn bname bkids) = true) (va : valE (.mk aop an aname akids) = true) (vb : valE (.mk bop bn bname bkids) = true) (ht : Tabs w) :
    Calls Tryd.prog 47 #[.agg #[.int .i64 9, .int .i64 n, .string name, .slice A 2 p]] w (FoldRP (d + 1) (foldTwo 9 (Ex.mk aop an aname akids) (Ex.mk bop bn bname bkids) (Ex.mk 9 n name [(Ex.mk aop an aname akids), (Ex.mk bop bn bname bkids)])) lo B w) := by
  obtain ⟨blk, op1, n1, nm1, k1, A3, p3, rfl, hlb, hbB, HL1, oa, na, sa, ha', c0, c1, c2, c3⟩ := exT_get d h3 (show 0 < 2 by omega)
  have e1 := HL1.out
  injection e1 with e1 e2 e3 e4
  subst e1 e2 e3 e4
  obtain ⟨blk', op2, n2, nm2, k2, A4, p4, hA, _, _, HL2, ob, nb, sb, hb', c4, c5, c6, c7⟩ := exT_get d h3 (show 1 < 2 by omega)
  injection hA with hA
  injection hA with hA
  subst hA
  have e1 := HL2.out
  injection e1 with e1 e2 e3 e4
  subst e1 e2 e3 e4
  have he : ∀ m, (exT m (d + 1 + 1)).rep w lo B (Ex.mk 9 n name [(Ex.mk aop an aname akids), (Ex.mk bop bn bname bkids)]) [.int .i64 9, .int .i64 n, .string name, .slice (some ⟨blk, 0, none⟩) 2 p] := fun m => exT_mk m (d + 1) 9 n name _ _ ⟨by omega, by omega⟩ hn hnm (h3 m)
  have ha : ∀ m, (exT m (d + 1 + 1)).rep w lo B (Ex.mk aop an aname akids) [.int .i64 aop, .int .i64 an, .string aname, .slice A3 akids.length p3] := fun m => exT_le m (Nat.le_succ _) (ha' m)
  have hb : ∀ m, (exT m (d + 1 + 1)).rep w lo B (Ex.mk bop bn bname bkids) [.int .i64 bop, .int .i64 bn, .string bname, .slice A4 bkids.length p4] := fun m => exT_le m (Nat.le_succ _) (hb' m)
  have ska : Sl false (exS false d) w lo B akids (.slice A3 akids.length p3) := (exT_kids d (ha' false)).exS
  have skb : Sl false (exS false d) w lo B bkids (.slice A4 bkids.length p4) := (exT_kids d (hb' false)).exS
  have h3s : Sl false (exS false (d + 1)) w lo B [(Ex.mk aop an aname akids), (Ex.mk bop bn bname bkids)] (.slice (some ⟨blk, 0, none⟩) 2 p) := (h3 false).exS
  clear ha' hb' h3 HL1 HL2
  obtain ⟨T, hTT⟩ : ∃ T, foldTwo 9 (Ex.mk aop an aname akids) (Ex.mk bop bn bname bkids) (Ex.mk 9 n name [(Ex.mk aop an aname akids), (Ex.mk bop bn bname bkids)]) = T := ⟨_, rfl⟩
  rw [hTT]
  have HTT := Lib.hid hTT
  clear hTT
  have hblk : blk < w.heap.size := by omega
  obtain ⟨vA0, hvA0⟩ : ∃ v, isN (Ex.mk aop an aname akids) 0 = v := ⟨_, rfl⟩
  obtain ⟨vA1, hvA1⟩ : ∃ v, isN (Ex.mk aop an aname akids) 1 = v := ⟨_, rfl⟩
  obtain ⟨vB0, hvB0⟩ : ∃ v, isN (Ex.mk bop bn bname bkids) 0 = v := ⟨_, rfl⟩
  obtain ⟨vB1, hvB1⟩ : ∃ v, isN (Ex.mk bop bn bname bkids) 1 = v := ⟨_, rfl⟩
  obtain ⟨vSA, hvSA⟩ : ∃ v, safeE 6 (Ex.mk aop an aname akids) = v := ⟨_, rfl⟩
  obtain ⟨vSB, hvSB⟩ : ∃ v, safeE 6 (Ex.mk bop bn bname bkids) = v := ⟨_, rfl⟩
  have HA0 := Lib.hid hvA0
  have HA1 := Lib.hid hvA1
  have HB0 := Lib.hid hvB0
  have HB1 := Lib.hid hvB1
  have HSA := Lib.hid hvSA
  have HSB := Lib.hid hvSB
  clear hvA0 hvA1 hvB0 hvB1 hvSA hvSB

  have HT := Lib.hid (fun (w9 : World) (h9 : Below w.heap.size w w9) => ht.below h9 (Nat.le_refl _))
  clear ht
  have HBSA : Hid (safB (Ex.mk aop an aname akids) = vSA) := by show _ = _; unfold safB; rw [va, HSA.out]; rfl
  have HBSB : Hid (safB (Ex.mk bop bn bname bkids) = vSB) := by show _ = _; unfold safB; rw [vb, HSB.out]; rfl
  replace va := Lib.hid va
  replace vb := Lib.hid vb
  clear fa fb
  have hw : Below w.heap.size w ((w.alloc (.cells #[.int .i64 9, .int .i64 n, .string name, .slice (some ⟨blk, 0, none⟩) 2 p] 25)).alloc (.cells #[.int .i64 0, .int .i64 0, .string ⟨#[]⟩, .slice none 0 0] 25)) := ((Below.refl _ _).alloc (Nat.le_refl _) _).alloc (by simp) _
  have RE : Row _ w.heap.size 25 #[.int .i64 9, .int .i64 n, .string name, .slice (some ⟨blk, 0, none⟩) 2 p] := (Row.new w _ _).alloc (.cells #[.int .i64 0, .int .i64 0, .string ⟨#[]⟩, .slice none 0 0] 25)
  have RR : Row ((w.alloc (.cells #[.int .i64 9, .int .i64 n, .string name, .slice (some ⟨blk, 0, none⟩) 2 p] 25)).alloc (.cells #[.int .i64 0, .int .i64 0, .string ⟨#[]⟩, .slice none 0 0] 25)) (w.heap.size + 1) 25 #[.int .i64 0, .int .i64 0, .string ⟨#[]⟩, .slice none 0 0] := by simpa using Row.new (w.alloc (.cells #[.int .i64 9, .int .i64 n, .string name, .slice (some ⟨blk, 0, none⟩) 2 p] 25)) 25 #[.int .i64 0, .int .i64 0, .string ⟨#[]⟩, .slice none 0 0]
  obtain ⟨k0, k1, k2, k3, k4, k5, k6, k7⟩ := kids8 hw hblk c0 c1 c2 c3 c4 c5 c6 c7
  have g_0 := RE.cell 3
  obtain ⟨L, hL⟩ : ∃ L : List (Addr × Value), [(⟨w.heap.size, 3, none⟩, .slice (some ⟨blk, 0, none⟩) 2 p), (⟨blk, 0, none⟩, .int .i64 aop), (⟨blk, 1, none⟩, .int .i64 an), (⟨blk, 2, none⟩, .string aname), (⟨blk, 3, none⟩, .slice A3 akids.length p3), (⟨blk, 4, none⟩, .int .i64 bop), (⟨blk, 5, none⟩, .int .i64 bn), (⟨blk, 6, none⟩, .string bname), (⟨blk, 7, none⟩, .slice A4 bkids.length p4)] = L := ⟨_, rfl⟩
  have HG : Hid (Has ((w.alloc (.cells #[.int .i64 9, .int .i64 n, .string name, .slice (some ⟨blk, 0, none⟩) 2 p] 25)).alloc (.cells #[.int .i64 0, .int .i64 0, .string ⟨#[]⟩, .slice none 0 0] 25)) L) := by
    subst hL
    exact .cons (RE.cell 3) (.cons k0 (.cons k1 (.cons k2 (.cons k3 (.cons k4 (.cons k5 (.cons k6 (.cons k7 .nil))))))))
  have HLT : Hid (∀ x ∈ L, x.1.block < w.heap.size + 2) := by
    subst hL
    exact lcons (by dsimp only; omega) (lcons (by dsimp only; omega) (lcons (by dsimp only; omega) (lcons (by dsimp only; omega) (lcons (by dsimp only; omega) (lcons (by dsimp only; omega) (lcons (by dsimp only; omega) (lcons (by dsimp only; omega) (lcons (by dsimp only; omega) (lnil)))))))))
  replace hL := Lib.hid hL.symm
  have HL := hL
  clear hL
  clear c0 c1 c2 c3 c4 c5 c6 c7
  go_enter Tryd.func47, Tryd.ntmps47
  go_wp2_with fail
  go_cut [3, 4] (fun s3 s4 wx => ∃ ga gb : Nat, s3 = .pointer (some ⟨ga, 0, none⟩) ∧ s4 = .pointer (some ⟨gb, 0, none⟩) ∧ Row wx ga 25 #[.int .i64 aop, .int .i64 an, .string aname, .slice A3 akids.length p3] ∧ Row wx gb 25 #[.int .i64 bop, .int .i64 bn, .string bname, .slice A4 bkids.length p4] ∧ w.heap.size + 1 < ga ∧ w.heap.size + 1 < gb ∧ Below (w.heap.size + 2) ((w.alloc (.cells #[.int .i64 9, .int .i64 n, .string name, .slice (some ⟨blk, 0, none⟩) 2 p] 25)).alloc (.cells #[.int .i64 0, .int .i64 0, .string ⟨#[]⟩, .slice none 0 0] 25)) wx)
  case first =>
   refine wp_region_held_drew (S := fun w' => Has w' L) (by kernel_rfl) ?_ (fun hHeld => ?_)
   · exact HG.out
   have udd : Below (w.heap.size + 2) ((w.alloc (.cells #[.int .i64 9, .int .i64 n, .string name, .slice (some ⟨blk, 0, none⟩) 2 p] 25)).alloc (.cells #[.int .i64 0, .int .i64 0, .string ⟨#[]⟩, .slice none 0 0] 25)) ((w.alloc (.cells #[.int .i64 9, .int .i64 n, .string name, .slice (some ⟨blk, 0, none⟩) 2 p] 25)).alloc (.cells #[.int .i64 0, .int .i64 0, .string ⟨#[]⟩, .slice none 0 0] 25)).drew := (Below.refl _ _).drew
   have hsd : w.heap.size + 2 ≤ ((w.alloc (.cells #[.int .i64 9, .int .i64 n, .string name, .slice (some ⟨blk, 0, none⟩) 2 p] 25)).alloc (.cells #[.int .i64 0, .int .i64 0, .string ⟨#[]⟩, .slice none 0 0] 25)).drew.heap.size := by show _ ≤ ((w.alloc (.cells #[.int .i64 9, .int .i64 n, .string name, .slice (some ⟨blk, 0, none⟩) 2 p] 25)).alloc (.cells #[.int .i64 0, .int .i64 0, .string ⟨#[]⟩, .slice none 0 0] 25)).heap.size; simp
   have h : Has ((w.alloc (.cells #[.int .i64 9, .int .i64 n, .string name, .slice (some ⟨blk, 0, none⟩) 2 p] 25)).alloc (.cells #[.int .i64 0, .int .i64 0, .string ⟨#[]⟩, .slice none 0 0] 25)).drew L := HG.out
   generalize ((w.alloc (.cells #[.int .i64 9, .int .i64 n, .string name, .slice (some ⟨blk, 0, none⟩) 2 p] 25)).alloc (.cells #[.int .i64 0, .int .i64 0, .string ⟨#[]⟩, .slice none 0 0] 25)).drew = wd at udd hsd hHeld h ⊢
   have h9 := h.nine HL.out
   dsimp only at h9
   obtain ⟨h_0, h_1, h_2, h_3, h_4, h_5, h_6, h_7, h_8⟩ := h9
   refine reg_take (i := 0) (v := ?v1) rfl (by kernel_rfl) (by kernel_rfl) (by kernel_rfl) (fun _ _ _ h => h) (Or.inl ⟨by kernel_rfl, ?h1⟩) (by assumption) ?r1
   case h1 => (intro w hSw; have hSw := Has.nine hSw HL.out; dsimp only at hSw; go_simp; try with_reducible rfl)
   try simp only [Act.put, List.setIfInBounds_toArray, List.set_cons_zero, List.set_cons_succ]
   refine reg_take (i := 1) (v := ?v2) rfl (by kernel_rfl) (by kernel_rfl) (by kernel_rfl) (fun _ _ _ h => h) (Or.inl ⟨by kernel_rfl, ?h2⟩) (by assumption) ?r2
   case h2 => (intro w hSw; have hSw := Has.nine hSw HL.out; dsimp only at hSw; go_simp; try with_reducible rfl)
   try simp only [Act.put, List.setIfInBounds_toArray, List.set_cons_zero, List.set_cons_succ]
   refine reg_take (i := 2) (v := ?v3) rfl (by kernel_rfl) (by kernel_rfl) (by kernel_rfl) (fun _ _ _ h => h) (Or.inl ⟨by kernel_rfl, ?h3⟩) (by assumption) ?r3
   case h3 => (intro w hSw; have hSw := Has.nine hSw HL.out; dsimp only at hSw; go_simp; try with_reducible rfl)
   try simp only [Act.put, List.setIfInBounds_toArray, List.set_cons_zero, List.set_cons_succ]
   refine reg_take (i := 3) (v := ?v4) rfl (by kernel_rfl) (by kernel_rfl) (by kernel_rfl) (fun _ _ _ h => h) (Or.inl ⟨by kernel_rfl, ?h4⟩) (by assumption) ?r4
   case h4 => (intro w hSw; have hSw := Has.nine hSw HL.out; dsimp only at hSw; go_simp; try with_reducible rfl)
   try simp only [Act.put, List.setIfInBounds_toArray, List.set_cons_zero, List.set_cons_succ]
   refine reg_take (i := 4) (v := ?v5) rfl (by kernel_rfl) (by kernel_rfl) (by kernel_rfl) (fun _ _ _ h => h) (Or.inl ⟨by kernel_rfl, ?h5⟩) (by assumption) ?r5
   case h5 => (intro w hSw; have hSw := Has.nine hSw HL.out; dsimp only at hSw; go_simp; try with_reducible rfl)
   try simp only [Act.put, List.setIfInBounds_toArray, List.set_cons_zero, List.set_cons_succ]
   refine reg_take (i := 5) (v := ?v6) rfl (by kernel_rfl) (by kernel_rfl) (by kernel_rfl) (fun _ _ _ h => h) (Or.inl ⟨by kernel_rfl, ?h6⟩) (by assumption) ?r6
   case h6 => (intro w hSw; have hSw := Has.nine hSw HL.out; dsimp only at hSw; go_simp; try with_reducible rfl)
   try simp only [Act.put, List.setIfInBounds_toArray, List.set_cons_zero, List.set_cons_succ]
   refine reg_take (i := 6) (v := ?v7) rfl (by kernel_rfl) (by kernel_rfl) (by kernel_rfl) (fun _ _ _ h => h) (Or.inl ⟨by kernel_rfl, ?h7⟩) (by assumption) ?r7
   case h7 => (intro w hSw; have hSw := Has.nine hSw HL.out; dsimp only at hSw; go_simp; try with_reducible rfl)
   try simp only [Act.put, List.setIfInBounds_toArray, List.set_cons_zero, List.set_cons_succ]
   refine reg_take (i := 7) (v := ?v8) rfl (by kernel_rfl) (by kernel_rfl) (by kernel_rfl) (fun _ _ _ h => h) (Or.inl ⟨by kernel_rfl, ?h8⟩) (by assumption) ?r8
   case h8 => (intro w hSw; have hSw := Has.nine hSw HL.out; dsimp only at hSw; go_simp; try with_reducible rfl)
   try simp only [Act.put, List.setIfInBounds_toArray, List.set_cons_zero, List.set_cons_succ]
   refine reg_take (i := 8) (v := ?v9) rfl (by kernel_rfl) (by kernel_rfl) (by kernel_rfl) (fun _ _ _ h => h) (Or.inl ⟨by kernel_rfl, ?h9⟩) (by assumption) ?r9
   case h9 => (intro w hSw; have hSw := Has.nine hSw HL.out; dsimp only at hSw; go_simp; try with_reducible rfl)
   try simp only [Act.put, List.setIfInBounds_toArray, List.set_cons_zero, List.set_cons_succ]
   refine reg_take (i := 9) (v := .int .i64 1) rfl (by kernel_rfl) (by kernel_rfl) (by kernel_rfl) (fun _ _ _ h => h) (Or.inl ⟨by kernel_rfl, ?h10⟩) (by assumption) ?r10
   case h10 => (intro w hSw; have hSw := Has.nine hSw HL.out; dsimp only at hSw; go_simp; try rfl)
   try simp only [Act.put, List.setIfInBounds_toArray, List.set_cons_zero, List.set_cons_succ]
   refine reg_take (i := 10) (v := ?v11) rfl (by kernel_rfl) (by kernel_rfl) (by kernel_rfl) (fun _ _ _ h => h) (Or.inl ⟨by kernel_rfl, ?h11⟩) (by assumption) ?r11
   case h11 => (intro w hSw; have hSw := Has.nine hSw HL.out; dsimp only at hSw; go_simp; try with_reducible rfl)
   try simp only [Act.put, List.setIfInBounds_toArray, List.set_cons_zero, List.set_cons_succ]
   refine reg_take (i := 11) (v := ?v12) rfl (by kernel_rfl) (by kernel_rfl) (by kernel_rfl) (fun _ _ _ h => h) (Or.inl ⟨by kernel_rfl, ?h12⟩) (by assumption) ?r12
   case h12 => (intro w hSw; have hSw := Has.nine hSw HL.out; dsimp only at hSw; go_simp; try with_reducible rfl)
   try simp only [Act.put, List.setIfInBounds_toArray, List.set_cons_zero, List.set_cons_succ]
   refine reg_call2 (i := 12) (j := 13) (by kernel_rfl) rfl rfl (fun K hK => ?_) (fun K hK => ?_)
   · go_simp
     have u1 := (Below.refl _ wd).alloc hsd (.cells #[.int .i64 0, .int .i64 0, .string ⟨#[]⟩, .slice none 0 0] 25)
     refine hK.out _ _ ?_ (fun hHeld => ?_)
     · exact h.below u1 HLT.out
     clear hK K
     try simp only [Act.put, List.setIfInBounds_toArray, List.set_cons_zero, List.set_cons_succ]
     refine reg_call (i := 13) (by kernel_rfl) rfl (fun K hK => ?_)
     go_simp
     have u2 := u1.alloc (by simp; omega) (.cells #[.int .i64 0, .int .i64 0, .string ⟨#[]⟩, .slice none 0 0] 25)
     refine hK.out _ _ ?_ (fun hHeld => ?_)
     · exact h.below u2 HLT.out
     clear hK K
     try simp only [Act.put, List.setIfInBounds_toArray, List.set_cons_zero, List.set_cons_succ]
     have q0 : Row _ wd.heap.size 25 #[.int .i64 0, .int .i64 0, .string ⟨#[]⟩, .slice none 0 0] := (Row.new wd _ _).alloc (.cells #[.int .i64 0, .int .i64 0, .string ⟨#[]⟩, .slice none 0 0] 25)
     have q1 : Row ((wd.alloc (.cells #[.int .i64 0, .int .i64 0, .string ⟨#[]⟩, .slice none 0 0] 25)).alloc (.cells #[.int .i64 0, .int .i64 0, .string ⟨#[]⟩, .slice none 0 0] 25)) (wd.heap.size + 1) 25 #[.int .i64 0, .int .i64 0, .string ⟨#[]⟩, .slice none 0 0] := by simpa using Row.new (wd.alloc (.cells #[.int .i64 0, .int .i64 0, .string ⟨#[]⟩, .slice none 0 0] 25)) 25 #[.int .i64 0, .int .i64 0, .string ⟨#[]⟩, .slice none 0 0]
     generalize ((wd.alloc (.cells #[.int .i64 0, .int .i64 0, .string ⟨#[]⟩, .slice none 0 0] 25)).alloc (.cells #[.int .i64 0, .int .i64 0, .string ⟨#[]⟩, .slice none 0 0] 25)) = wv at u2 q0 q1 hHeld ⊢
     clear u1
     obtain ⟨m0, m1, m2, m3, n0, n1, n2, n3⟩ := cells8 q0
     refine reg_call (i := 14) (by kernel_rfl) rfl (fun K hK => ?_)
     go_simp
     have u4 := ((((u2.setCell (p := ⟨wd.heap.size, 0, none⟩) hsd (.int .i64 aop)).setCell (p := ⟨wd.heap.size, 1, none⟩) hsd (.int .i64 an)).setCell (p := ⟨wd.heap.size, 2, none⟩) hsd (.string aname)).setCell (p := ⟨wd.heap.size, 3, none⟩) hsd (.slice A3 akids.length p3))
     refine hK.out _ _ ?_ (fun hHeld => ?_)
     · exact h.below u4 HLT.out
     clear hK K
     try simp only [Act.put, List.setIfInBounds_toArray, List.set_cons_zero, List.set_cons_succ]
     have r0 : Row _ (wd.heap.size) 25 #[.int .i64 aop, .int .i64 an, .string aname, .slice A3 akids.length p3] := (((q0.set_ 0 (.int .i64 aop)).set_ 1 (.int .i64 an)).set_ 2 (.string aname)).set_ 3 (.slice A3 akids.length p3)
     have hne : wd.heap.size + 1 ≠ wd.heap.size := by omega
     have r1 := ((((q1.far (p := ⟨wd.heap.size, 0, none⟩) hne (.int .i64 aop)).far (p := ⟨wd.heap.size, 1, none⟩) hne (.int .i64 an)).far (p := ⟨wd.heap.size, 2, none⟩) hne (.string aname)).far (p := ⟨wd.heap.size, 3, none⟩) hne (.slice A3 akids.length p3))
     generalize ((((wv.setCell ⟨wd.heap.size, 0, none⟩ (.int .i64 aop)).setCell ⟨wd.heap.size, 1, none⟩ (.int .i64 an)).setCell ⟨wd.heap.size, 2, none⟩ (.string aname)).setCell ⟨wd.heap.size, 3, none⟩ (.slice A3 akids.length p3)) = wy at u4 r0 r1 hHeld ⊢
     clear u2 m0 m1 m2 m3 n0 n1 n2 n3
     obtain ⟨m0, m1, m2, m3, n0, n1, n2, n3⟩ := cells8 r1
     refine reg_call (i := 15) (by kernel_rfl) rfl (fun K hK => ?_)
     go_simp
     have u6 := ((((u4.setCell (p := ⟨wd.heap.size + 1, 0, none⟩) (Nat.le_succ_of_le hsd) (.int .i64 bop)).setCell (p := ⟨wd.heap.size + 1, 1, none⟩) (Nat.le_succ_of_le hsd) (.int .i64 bn)).setCell (p := ⟨wd.heap.size + 1, 2, none⟩) (Nat.le_succ_of_le hsd) (.string bname)).setCell (p := ⟨wd.heap.size + 1, 3, none⟩) (Nat.le_succ_of_le hsd) (.slice A4 bkids.length p4))
     refine hK.out _ _ ?_ (fun hHeld => ?_)
     · exact h.below u6 HLT.out
     clear hK K
     try simp only [Act.put, List.setIfInBounds_toArray, List.set_cons_zero, List.set_cons_succ]
     have t0 : Row _ (wd.heap.size + 1) 25 #[.int .i64 bop, .int .i64 bn, .string bname, .slice A4 bkids.length p4] := (((r1.set_ 0 (.int .i64 bop)).set_ 1 (.int .i64 bn)).set_ 2 (.string bname)).set_ 3 (.slice A4 bkids.length p4)
     replace hne := hne.symm
     have t1 := ((((r0.far (p := ⟨wd.heap.size + 1, 0, none⟩) hne (.int .i64 bop)).far (p := ⟨wd.heap.size + 1, 1, none⟩) hne (.int .i64 bn)).far (p := ⟨wd.heap.size + 1, 2, none⟩) hne (.string bname)).far (p := ⟨wd.heap.size + 1, 3, none⟩) hne (.slice A4 bkids.length p4))
     refine wpAnyH_done (by kernel_rfl) ?_ _
     go_wp2_with fail
     go_meet
     case rel => exact ⟨_, _, rfl, rfl, t1, t0, by omega, by omega, udd.trans u6⟩
   · go_simp
     have u1 := (Below.refl _ wd).alloc hsd (.cells #[.int .i64 0, .int .i64 0, .string ⟨#[]⟩, .slice none 0 0] 25)
     refine hK.out _ _ ?_ (fun hHeld => ?_)
     · exact h.below u1 HLT.out
     clear hK K
     try simp only [Act.put, List.setIfInBounds_toArray, List.set_cons_zero, List.set_cons_succ]
     refine reg_call (i := 12) (by kernel_rfl) rfl (fun K hK => ?_)
     go_simp
     have u2 := u1.alloc (by simp; omega) (.cells #[.int .i64 0, .int .i64 0, .string ⟨#[]⟩, .slice none 0 0] 25)
     refine hK.out _ _ ?_ (fun hHeld => ?_)
     · exact h.below u2 HLT.out
     clear hK K
     try simp only [Act.put, List.setIfInBounds_toArray, List.set_cons_zero, List.set_cons_succ]
     have q0 : Row _ wd.heap.size 25 #[.int .i64 0, .int .i64 0, .string ⟨#[]⟩, .slice none 0 0] := (Row.new wd _ _).alloc (.cells #[.int .i64 0, .int .i64 0, .string ⟨#[]⟩, .slice none 0 0] 25)
     have q1 : Row ((wd.alloc (.cells #[.int .i64 0, .int .i64 0, .string ⟨#[]⟩, .slice none 0 0] 25)).alloc (.cells #[.int .i64 0, .int .i64 0, .string ⟨#[]⟩, .slice none 0 0] 25)) (wd.heap.size + 1) 25 #[.int .i64 0, .int .i64 0, .string ⟨#[]⟩, .slice none 0 0] := by simpa using Row.new (wd.alloc (.cells #[.int .i64 0, .int .i64 0, .string ⟨#[]⟩, .slice none 0 0] 25)) 25 #[.int .i64 0, .int .i64 0, .string ⟨#[]⟩, .slice none 0 0]
     generalize ((wd.alloc (.cells #[.int .i64 0, .int .i64 0, .string ⟨#[]⟩, .slice none 0 0] 25)).alloc (.cells #[.int .i64 0, .int .i64 0, .string ⟨#[]⟩, .slice none 0 0] 25)) = wv at u2 q0 q1 hHeld ⊢
     clear u1
     obtain ⟨m0, m1, m2, m3, n0, n1, n2, n3⟩ := cells8 q1
     refine reg_call (i := 14) (by kernel_rfl) rfl (fun K hK => ?_)
     go_simp
     have u4 := ((((u2.setCell (p := ⟨wd.heap.size + 1, 0, none⟩) (Nat.le_succ_of_le hsd) (.int .i64 aop)).setCell (p := ⟨wd.heap.size + 1, 1, none⟩) (Nat.le_succ_of_le hsd) (.int .i64 an)).setCell (p := ⟨wd.heap.size + 1, 2, none⟩) (Nat.le_succ_of_le hsd) (.string aname)).setCell (p := ⟨wd.heap.size + 1, 3, none⟩) (Nat.le_succ_of_le hsd) (.slice A3 akids.length p3))
     refine hK.out _ _ ?_ (fun hHeld => ?_)
     · exact h.below u4 HLT.out
     clear hK K
     try simp only [Act.put, List.setIfInBounds_toArray, List.set_cons_zero, List.set_cons_succ]
     have r0 : Row _ (wd.heap.size + 1) 25 #[.int .i64 aop, .int .i64 an, .string aname, .slice A3 akids.length p3] := (((q1.set_ 0 (.int .i64 aop)).set_ 1 (.int .i64 an)).set_ 2 (.string aname)).set_ 3 (.slice A3 akids.length p3)
     have hne : wd.heap.size ≠ wd.heap.size + 1 := by omega
     have r1 := ((((q0.far (p := ⟨wd.heap.size + 1, 0, none⟩) hne (.int .i64 aop)).far (p := ⟨wd.heap.size + 1, 1, none⟩) hne (.int .i64 an)).far (p := ⟨wd.heap.size + 1, 2, none⟩) hne (.string aname)).far (p := ⟨wd.heap.size + 1, 3, none⟩) hne (.slice A3 akids.length p3))
     generalize ((((wv.setCell ⟨wd.heap.size + 1, 0, none⟩ (.int .i64 aop)).setCell ⟨wd.heap.size + 1, 1, none⟩ (.int .i64 an)).setCell ⟨wd.heap.size + 1, 2, none⟩ (.string aname)).setCell ⟨wd.heap.size + 1, 3, none⟩ (.slice A3 akids.length p3)) = wy at u4 r0 r1 hHeld ⊢
     clear u2 m0 m1 m2 m3 n0 n1 n2 n3
     obtain ⟨m0, m1, m2, m3, n0, n1, n2, n3⟩ := cells8 r1
     refine reg_call (i := 15) (by kernel_rfl) rfl (fun K hK => ?_)
     go_simp
     have u6 := ((((u4.setCell (p := ⟨wd.heap.size, 0, none⟩) hsd (.int .i64 bop)).setCell (p := ⟨wd.heap.size, 1, none⟩) hsd (.int .i64 bn)).setCell (p := ⟨wd.heap.size, 2, none⟩) hsd (.string bname)).setCell (p := ⟨wd.heap.size, 3, none⟩) hsd (.slice A4 bkids.length p4))
     refine hK.out _ _ ?_ (fun hHeld => ?_)
     · exact h.below u6 HLT.out
     clear hK K
     try simp only [Act.put, List.setIfInBounds_toArray, List.set_cons_zero, List.set_cons_succ]
     have t0 : Row _ (wd.heap.size) 25 #[.int .i64 bop, .int .i64 bn, .string bname, .slice A4 bkids.length p4] := (((r1.set_ 0 (.int .i64 bop)).set_ 1 (.int .i64 bn)).set_ 2 (.string bname)).set_ 3 (.slice A4 bkids.length p4)
     replace hne := hne.symm
     have t1 := ((((r0.far (p := ⟨wd.heap.size, 0, none⟩) hne (.int .i64 bop)).far (p := ⟨wd.heap.size, 1, none⟩) hne (.int .i64 bn)).far (p := ⟨wd.heap.size, 2, none⟩) hne (.string bname)).far (p := ⟨wd.heap.size, 3, none⟩) hne (.slice A4 bkids.length p4))
     refine wpAnyH_done (by kernel_rfl) ?_ _
     go_wp2_with fail
     go_meet
     case rel => exact ⟨_, _, rfl, rfl, t1, t0, by omega, by omega, udd.trans u6⟩
  case rest =>
   obtain ⟨ga, gb, rfl, rfl, RA, RB, hga, hgb, hbc⟩ := hcut
   replace hw : Below w.heap.size w wc := hw.trans (hbc.mono (by omega))
   replace RE := RE.below hbc (by omega)
   replace RR := RR.below hbc (by omega)
   clear hbc HG HL HLT g_0 k0 k1 k2 k3 k4 k5 k6 k7
   by_cases qa : aop = 1
   case neg =>
    have qa' : (aop == 1) = false := by simpa using qa
    have HN : Hid (numB 9 (Ex.mk aop an aname akids) (Ex.mk bop bn bname bkids) = false) := by show _ = _; simp [numB, Ex.op, qa]
    clear qa
    obtain ⟨s0, s1, s2, s3, f0, f1, f2, f3⟩ := cells8 RR
    obtain ⟨y0, y1, y2, y3, y4, y5, y6, y7, y8, y9, ya, yb⟩ := cells12 RE RA RB
    have F := leaf_fin (f := T) hw hB (Nat.le_succ _) RR he (by rw [← HTT.out]; unfold foldTwo; simp [HN.out])
    go_wp2_with fail
    refine bodyPost_ret (by simp [results, Tryd.results47, go_sem, s0, s1, s2, s3]) rfl F.out
   by_cases qb : bop = 1
   case neg =>
    have qb' : (bop == 1) = false := by simpa using qb
    have HN : Hid (numB 9 (Ex.mk aop an aname akids) (Ex.mk bop bn bname bkids) = false) := by show _ = _; simp [numB, Ex.op, qb]
    subst qa
    clear qb
    obtain ⟨s0, s1, s2, s3, f0, f1, f2, f3⟩ := cells8 RR
    obtain ⟨y0, y1, y2, y3, y4, y5, y6, y7, y8, y9, ya, yb⟩ := cells12 RE RA RB
    have F := leaf_fin (f := T) hw hB (Nat.le_succ _) RR he (by rw [← HTT.out]; unfold foldTwo; simp [HN.out])
    go_wp2_with fail
    refine bodyPost_ret (by simp [results, Tryd.results47, go_sem, s0, s1, s2, s3]) rfl F.out
   subst qa qb
   obtain ⟨an0, an1⟩ := ra rfl
   obtain ⟨bn0, bn1⟩ := rb rfl
   clear ra rb
   have hv : (arV 9 an bn).2 = true := by simp [arV]
   have HN : Hid (numB 9 (Ex.mk 1 an aname akids) (Ex.mk 1 bn bname bkids) = true) := by show _ = _; simp [numB, Ex.op, Ex.n, hv]
   have HV := Lib.hid hv
   have hI : I64 (arV 9 an bn).1 := by
     have := arV_range (op := 9) an0 an1 bn0 bn1
     exact ⟨by omega, by omega⟩
   clear hv
   obtain ⟨y0, y1, y2, y3, y4, y5, y6, y7, y8, y9, ya, yb⟩ := cells12 RE RA RB
   go_wp2_with fail
   refine (impl_arith 9 an bn _ an0 an1 bn0 bn1).mono ?_
   rw [HV.out]
   rintro e w6 ⟨rfl, hw6⟩
   subst hw6
   clear y0 y1 y2 y3 y4 y5 y6 y7 y8 y9 ya yb
   obtain ⟨y0, y1, y2, y3, y4, y5, y6, y7, y8, y9, ya, yb⟩ := cells12 RE RA RB
   go_wp2_with fail
   refine (impl_num (d + 1) ((arV 9 an bn).1) _ hI).mono ?_
   rintro e w6 ⟨An, cn, rfl, hnr, x6⟩
   clear y0 y1 y2 y3 y4 y5 y6 y7 y8 y9 ya yb
   replace hw := hw.trans (x6.mono hw.size)
   replace RE := RE.below x6 RE.lt
   replace RR := RR.below x6 RR.lt
   replace RA := RA.below x6 RA.lt
   replace RB := RB.below x6 RB.lt
   obtain ⟨s0, s1, s2, s3, f0, f1, f2, f3⟩ := cells8 RR
   obtain ⟨y0, y1, y2, y3, y4, y5, y6, y7, y8, y9, ya, yb⟩ := cells12 RE RA RB
   have F := leaf_fin (f := T) hw hB (Nat.le_succ _) RR (hnr w lo B) (show T = exN1 ((arV 9 an bn).1) by rw [← HTT.out]; unfold foldTwo; rw [if_pos HN.out]; rfl)
   go_wp2_with fail
   refine bodyPost_ret (by simp [results, Tryd.results47, go_sem, s0, s1, s2, s3]) rfl F.out
end Go.Proofs.YthfinoapfbhgcaaDoor

namespace Go.Proofs.YthfinoapfbhgcaaDoor
open Go.RowKit Go.ChangeShapes Go.WideShapes Go.Deep
set_option linter.unusedVariables false
set_option linter.unusedSimpArgs false
set_option maxRecDepth 100000 in
set_option maxHeartbeats 16000000 in
theorem impl_foldPart_10 (d : Nat) (n : Int) (name : ByteArray) (aop an : Int) (aname : ByteArray) (akids : List Ex) (bop bn : Int) (bname : ByteArray) (bkids : List Ex) (A : Option Addr) (p : Nat) (w : World) (lo B : Nat) (hB : B ≤ w.heap.size) (hn : I64 n) (hnm : name.size ≤ maxLen)
    (h3 : ∀ m, SlT m (exT m (d + 1)) w lo B [.mk aop an aname akids, .mk bop bn bname bkids] (.slice A 2 p)) (ra : aop = 1 → 0 ≤ an ∧ an ≤ 255) (rb : bop = 1 → 0 ≤ bn ∧ bn ≤ 255) (fa : formB 6 (.mk aop an aname akids) = true) (fb : formB 6 (.mk bop bn bname bkids) = true) (va : valE (.mk aop an aname akids) = true) (vb : valE (.mk bop bn bname bkids) = true) (ht : Tabs w) :
    Calls Tryd.prog 47 #[.agg #[.int .i64 10, .int .i64 n, .string name, .slice A 2 p]] w (FoldRP (d + 1) (foldTwo 10 (Ex.mk aop an aname akids) (Ex.mk bop bn bname bkids) (Ex.mk 10 n name [(Ex.mk aop an aname akids), (Ex.mk bop bn bname bkids)])) lo B w) := by
  obtain ⟨blk, op1, n1, nm1, k1, A3, p3, rfl, hlb, hbB, HL1, oa, na, sa, ha', c0, c1, c2, c3⟩ := exT_get d h3 (show 0 < 2 by omega)
  have e1 := HL1.out
  injection e1 with e1 e2 e3 e4
  subst e1 e2 e3 e4
  obtain ⟨blk', op2, n2, nm2, k2, A4, p4, hA, _, _, HL2, ob, nb, sb, hb', c4, c5, c6, c7⟩ := exT_get d h3 (show 1 < 2 by omega)
  injection hA with hA
  injection hA with hA
  subst hA
  have e1 := HL2.out
  injection e1 with e1 e2 e3 e4
  subst e1 e2 e3 e4
  have he : ∀ m, (exT m (d + 1 + 1)).rep w lo B (Ex.mk 10 n name [(Ex.mk aop an aname akids), (Ex.mk bop bn bname bkids)]) [.int .i64 10, .int .i64 n, .string name, .slice (some ⟨blk, 0, none⟩) 2 p] := fun m => exT_mk m (d + 1) 10 n name _ _ ⟨by omega, by omega⟩ hn hnm (h3 m)
  have ha : ∀ m, (exT m (d + 1 + 1)).rep w lo B (Ex.mk aop an aname akids) [.int .i64 aop, .int .i64 an, .string aname, .slice A3 akids.length p3] := fun m => exT_le m (Nat.le_succ _) (ha' m)
  have hb : ∀ m, (exT m (d + 1 + 1)).rep w lo B (Ex.mk bop bn bname bkids) [.int .i64 bop, .int .i64 bn, .string bname, .slice A4 bkids.length p4] := fun m => exT_le m (Nat.le_succ _) (hb' m)
  have ska : Sl false (exS false d) w lo B akids (.slice A3 akids.length p3) := (exT_kids d (ha' false)).exS
  have skb : Sl false (exS false d) w lo B bkids (.slice A4 bkids.length p4) := (exT_kids d (hb' false)).exS
  have h3s : Sl false (exS false (d + 1)) w lo B [(Ex.mk aop an aname akids), (Ex.mk bop bn bname bkids)] (.slice (some ⟨blk, 0, none⟩) 2 p) := (h3 false).exS
  clear ha' hb' h3 HL1 HL2
  obtain ⟨T, hTT⟩ : ∃ T, foldTwo 10 (Ex.mk aop an aname akids) (Ex.mk bop bn bname bkids) (Ex.mk 10 n name [(Ex.mk aop an aname akids), (Ex.mk bop bn bname bkids)]) = T := ⟨_, rfl⟩
  rw [hTT]
  have HTT := Lib.hid hTT
  clear hTT
  have hblk : blk < w.heap.size := by omega
  obtain ⟨vA0, hvA0⟩ : ∃ v, isN (Ex.mk aop an aname akids) 0 = v := ⟨_, rfl⟩
  obtain ⟨vA1, hvA1⟩ : ∃ v, isN (Ex.mk aop an aname akids) 1 = v := ⟨_, rfl⟩
  obtain ⟨vB0, hvB0⟩ : ∃ v, isN (Ex.mk bop bn bname bkids) 0 = v := ⟨_, rfl⟩
  obtain ⟨vB1, hvB1⟩ : ∃ v, isN (Ex.mk bop bn bname bkids) 1 = v := ⟨_, rfl⟩
  obtain ⟨vSA, hvSA⟩ : ∃ v, safeE 6 (Ex.mk aop an aname akids) = v := ⟨_, rfl⟩
  obtain ⟨vSB, hvSB⟩ : ∃ v, safeE 6 (Ex.mk bop bn bname bkids) = v := ⟨_, rfl⟩
  have HA0 := Lib.hid hvA0
  have HA1 := Lib.hid hvA1
  have HB0 := Lib.hid hvB0
  have HB1 := Lib.hid hvB1
  have HSA := Lib.hid hvSA
  have HSB := Lib.hid hvSB
  clear hvA0 hvA1 hvB0 hvB1 hvSA hvSB

  have HT := Lib.hid (fun (w9 : World) (h9 : Below w.heap.size w w9) => ht.below h9 (Nat.le_refl _))
  clear ht
  have HBSA : Hid (safB (Ex.mk aop an aname akids) = vSA) := by show _ = _; unfold safB; rw [va, HSA.out]; rfl
  have HBSB : Hid (safB (Ex.mk bop bn bname bkids) = vSB) := by show _ = _; unfold safB; rw [vb, HSB.out]; rfl
  replace va := Lib.hid va
  replace vb := Lib.hid vb
  clear fa fb
  have hw : Below w.heap.size w ((w.alloc (.cells #[.int .i64 10, .int .i64 n, .string name, .slice (some ⟨blk, 0, none⟩) 2 p] 25)).alloc (.cells #[.int .i64 0, .int .i64 0, .string ⟨#[]⟩, .slice none 0 0] 25)) := ((Below.refl _ _).alloc (Nat.le_refl _) _).alloc (by simp) _
  have RE : Row _ w.heap.size 25 #[.int .i64 10, .int .i64 n, .string name, .slice (some ⟨blk, 0, none⟩) 2 p] := (Row.new w _ _).alloc (.cells #[.int .i64 0, .int .i64 0, .string ⟨#[]⟩, .slice none 0 0] 25)
  have RR : Row ((w.alloc (.cells #[.int .i64 10, .int .i64 n, .string name, .slice (some ⟨blk, 0, none⟩) 2 p] 25)).alloc (.cells #[.int .i64 0, .int .i64 0, .string ⟨#[]⟩, .slice none 0 0] 25)) (w.heap.size + 1) 25 #[.int .i64 0, .int .i64 0, .string ⟨#[]⟩, .slice none 0 0] := by simpa using Row.new (w.alloc (.cells #[.int .i64 10, .int .i64 n, .string name, .slice (some ⟨blk, 0, none⟩) 2 p] 25)) 25 #[.int .i64 0, .int .i64 0, .string ⟨#[]⟩, .slice none 0 0]
  obtain ⟨k0, k1, k2, k3, k4, k5, k6, k7⟩ := kids8 hw hblk c0 c1 c2 c3 c4 c5 c6 c7
  have g_0 := RE.cell 3
  obtain ⟨L, hL⟩ : ∃ L : List (Addr × Value), [(⟨w.heap.size, 3, none⟩, .slice (some ⟨blk, 0, none⟩) 2 p), (⟨blk, 0, none⟩, .int .i64 aop), (⟨blk, 1, none⟩, .int .i64 an), (⟨blk, 2, none⟩, .string aname), (⟨blk, 3, none⟩, .slice A3 akids.length p3), (⟨blk, 4, none⟩, .int .i64 bop), (⟨blk, 5, none⟩, .int .i64 bn), (⟨blk, 6, none⟩, .string bname), (⟨blk, 7, none⟩, .slice A4 bkids.length p4)] = L := ⟨_, rfl⟩
  have HG : Hid (Has ((w.alloc (.cells #[.int .i64 10, .int .i64 n, .string name, .slice (some ⟨blk, 0, none⟩) 2 p] 25)).alloc (.cells #[.int .i64 0, .int .i64 0, .string ⟨#[]⟩, .slice none 0 0] 25)) L) := by
    subst hL
    exact .cons (RE.cell 3) (.cons k0 (.cons k1 (.cons k2 (.cons k3 (.cons k4 (.cons k5 (.cons k6 (.cons k7 .nil))))))))
  have HLT : Hid (∀ x ∈ L, x.1.block < w.heap.size + 2) := by
    subst hL
    exact lcons (by dsimp only; omega) (lcons (by dsimp only; omega) (lcons (by dsimp only; omega) (lcons (by dsimp only; omega) (lcons (by dsimp only; omega) (lcons (by dsimp only; omega) (lcons (by dsimp only; omega) (lcons (by dsimp only; omega) (lcons (by dsimp only; omega) (lnil)))))))))
  replace hL := Lib.hid hL.symm
  have HL := hL
  clear hL
  clear c0 c1 c2 c3 c4 c5 c6 c7
  go_enter Tryd.func47, Tryd.ntmps47
  go_wp2_with fail
  go_cut [3, 4] (fun s3 s4 wx => ∃ ga gb : Nat, s3 = .pointer (some ⟨ga, 0, none⟩) ∧ s4 = .pointer (some ⟨gb, 0, none⟩) ∧ Row wx ga 25 #[.int .i64 aop, .int .i64 an, .string aname, .slice A3 akids.length p3] ∧ Row wx gb 25 #[.int .i64 bop, .int .i64 bn, .string bname, .slice A4 bkids.length p4] ∧ w.heap.size + 1 < ga ∧ w.heap.size + 1 < gb ∧ Below (w.heap.size + 2) ((w.alloc (.cells #[.int .i64 10, .int .i64 n, .string name, .slice (some ⟨blk, 0, none⟩) 2 p] 25)).alloc (.cells #[.int .i64 0, .int .i64 0, .string ⟨#[]⟩, .slice none 0 0] 25)) wx)
  case first =>
   refine wp_region_held_drew (S := fun w' => Has w' L) (by kernel_rfl) ?_ (fun hHeld => ?_)
   · exact HG.out
   have udd : Below (w.heap.size + 2) ((w.alloc (.cells #[.int .i64 10, .int .i64 n, .string name, .slice (some ⟨blk, 0, none⟩) 2 p] 25)).alloc (.cells #[.int .i64 0, .int .i64 0, .string ⟨#[]⟩, .slice none 0 0] 25)) ((w.alloc (.cells #[.int .i64 10, .int .i64 n, .string name, .slice (some ⟨blk, 0, none⟩) 2 p] 25)).alloc (.cells #[.int .i64 0, .int .i64 0, .string ⟨#[]⟩, .slice none 0 0] 25)).drew := (Below.refl _ _).drew
   have hsd : w.heap.size + 2 ≤ ((w.alloc (.cells #[.int .i64 10, .int .i64 n, .string name, .slice (some ⟨blk, 0, none⟩) 2 p] 25)).alloc (.cells #[.int .i64 0, .int .i64 0, .string ⟨#[]⟩, .slice none 0 0] 25)).drew.heap.size := by show _ ≤ ((w.alloc (.cells #[.int .i64 10, .int .i64 n, .string name, .slice (some ⟨blk, 0, none⟩) 2 p] 25)).alloc (.cells #[.int .i64 0, .int .i64 0, .string ⟨#[]⟩, .slice none 0 0] 25)).heap.size; simp
   have h : Has ((w.alloc (.cells #[.int .i64 10, .int .i64 n, .string name, .slice (some ⟨blk, 0, none⟩) 2 p] 25)).alloc (.cells #[.int .i64 0, .int .i64 0, .string ⟨#[]⟩, .slice none 0 0] 25)).drew L := HG.out
   generalize ((w.alloc (.cells #[.int .i64 10, .int .i64 n, .string name, .slice (some ⟨blk, 0, none⟩) 2 p] 25)).alloc (.cells #[.int .i64 0, .int .i64 0, .string ⟨#[]⟩, .slice none 0 0] 25)).drew = wd at udd hsd hHeld h ⊢
   have h9 := h.nine HL.out
   dsimp only at h9
   obtain ⟨h_0, h_1, h_2, h_3, h_4, h_5, h_6, h_7, h_8⟩ := h9
   refine reg_take (i := 0) (v := ?v1) rfl (by kernel_rfl) (by kernel_rfl) (by kernel_rfl) (fun _ _ _ h => h) (Or.inl ⟨by kernel_rfl, ?h1⟩) (by assumption) ?r1
   case h1 => (intro w hSw; have hSw := Has.nine hSw HL.out; dsimp only at hSw; go_simp; try with_reducible rfl)
   try simp only [Act.put, List.setIfInBounds_toArray, List.set_cons_zero, List.set_cons_succ]
   refine reg_take (i := 1) (v := ?v2) rfl (by kernel_rfl) (by kernel_rfl) (by kernel_rfl) (fun _ _ _ h => h) (Or.inl ⟨by kernel_rfl, ?h2⟩) (by assumption) ?r2
   case h2 => (intro w hSw; have hSw := Has.nine hSw HL.out; dsimp only at hSw; go_simp; try with_reducible rfl)
   try simp only [Act.put, List.setIfInBounds_toArray, List.set_cons_zero, List.set_cons_succ]
   refine reg_take (i := 2) (v := ?v3) rfl (by kernel_rfl) (by kernel_rfl) (by kernel_rfl) (fun _ _ _ h => h) (Or.inl ⟨by kernel_rfl, ?h3⟩) (by assumption) ?r3
   case h3 => (intro w hSw; have hSw := Has.nine hSw HL.out; dsimp only at hSw; go_simp; try with_reducible rfl)
   try simp only [Act.put, List.setIfInBounds_toArray, List.set_cons_zero, List.set_cons_succ]
   refine reg_take (i := 3) (v := ?v4) rfl (by kernel_rfl) (by kernel_rfl) (by kernel_rfl) (fun _ _ _ h => h) (Or.inl ⟨by kernel_rfl, ?h4⟩) (by assumption) ?r4
   case h4 => (intro w hSw; have hSw := Has.nine hSw HL.out; dsimp only at hSw; go_simp; try with_reducible rfl)
   try simp only [Act.put, List.setIfInBounds_toArray, List.set_cons_zero, List.set_cons_succ]
   refine reg_take (i := 4) (v := ?v5) rfl (by kernel_rfl) (by kernel_rfl) (by kernel_rfl) (fun _ _ _ h => h) (Or.inl ⟨by kernel_rfl, ?h5⟩) (by assumption) ?r5
   case h5 => (intro w hSw; have hSw := Has.nine hSw HL.out; dsimp only at hSw; go_simp; try with_reducible rfl)
   try simp only [Act.put, List.setIfInBounds_toArray, List.set_cons_zero, List.set_cons_succ]
   refine reg_take (i := 5) (v := ?v6) rfl (by kernel_rfl) (by kernel_rfl) (by kernel_rfl) (fun _ _ _ h => h) (Or.inl ⟨by kernel_rfl, ?h6⟩) (by assumption) ?r6
   case h6 => (intro w hSw; have hSw := Has.nine hSw HL.out; dsimp only at hSw; go_simp; try with_reducible rfl)
   try simp only [Act.put, List.setIfInBounds_toArray, List.set_cons_zero, List.set_cons_succ]
   refine reg_take (i := 6) (v := ?v7) rfl (by kernel_rfl) (by kernel_rfl) (by kernel_rfl) (fun _ _ _ h => h) (Or.inl ⟨by kernel_rfl, ?h7⟩) (by assumption) ?r7
   case h7 => (intro w hSw; have hSw := Has.nine hSw HL.out; dsimp only at hSw; go_simp; try with_reducible rfl)
   try simp only [Act.put, List.setIfInBounds_toArray, List.set_cons_zero, List.set_cons_succ]
   refine reg_take (i := 7) (v := ?v8) rfl (by kernel_rfl) (by kernel_rfl) (by kernel_rfl) (fun _ _ _ h => h) (Or.inl ⟨by kernel_rfl, ?h8⟩) (by assumption) ?r8
   case h8 => (intro w hSw; have hSw := Has.nine hSw HL.out; dsimp only at hSw; go_simp; try with_reducible rfl)
   try simp only [Act.put, List.setIfInBounds_toArray, List.set_cons_zero, List.set_cons_succ]
   refine reg_take (i := 8) (v := ?v9) rfl (by kernel_rfl) (by kernel_rfl) (by kernel_rfl) (fun _ _ _ h => h) (Or.inl ⟨by kernel_rfl, ?h9⟩) (by assumption) ?r9
   case h9 => (intro w hSw; have hSw := Has.nine hSw HL.out; dsimp only at hSw; go_simp; try with_reducible rfl)
   try simp only [Act.put, List.setIfInBounds_toArray, List.set_cons_zero, List.set_cons_succ]
   refine reg_take (i := 9) (v := .int .i64 1) rfl (by kernel_rfl) (by kernel_rfl) (by kernel_rfl) (fun _ _ _ h => h) (Or.inl ⟨by kernel_rfl, ?h10⟩) (by assumption) ?r10
   case h10 => (intro w hSw; have hSw := Has.nine hSw HL.out; dsimp only at hSw; go_simp; try rfl)
   try simp only [Act.put, List.setIfInBounds_toArray, List.set_cons_zero, List.set_cons_succ]
   refine reg_take (i := 10) (v := ?v11) rfl (by kernel_rfl) (by kernel_rfl) (by kernel_rfl) (fun _ _ _ h => h) (Or.inl ⟨by kernel_rfl, ?h11⟩) (by assumption) ?r11
   case h11 => (intro w hSw; have hSw := Has.nine hSw HL.out; dsimp only at hSw; go_simp; try with_reducible rfl)
   try simp only [Act.put, List.setIfInBounds_toArray, List.set_cons_zero, List.set_cons_succ]
   refine reg_take (i := 11) (v := ?v12) rfl (by kernel_rfl) (by kernel_rfl) (by kernel_rfl) (fun _ _ _ h => h) (Or.inl ⟨by kernel_rfl, ?h12⟩) (by assumption) ?r12
   case h12 => (intro w hSw; have hSw := Has.nine hSw HL.out; dsimp only at hSw; go_simp; try with_reducible rfl)
   try simp only [Act.put, List.setIfInBounds_toArray, List.set_cons_zero, List.set_cons_succ]
   refine reg_call2 (i := 12) (j := 13) (by kernel_rfl) rfl rfl (fun K hK => ?_) (fun K hK => ?_)
   · go_simp
     have u1 := (Below.refl _ wd).alloc hsd (.cells #[.int .i64 0, .int .i64 0, .string ⟨#[]⟩, .slice none 0 0] 25)
     refine hK.out _ _ ?_ (fun hHeld => ?_)
     · exact h.below u1 HLT.out
     clear hK K
     try simp only [Act.put, List.setIfInBounds_toArray, List.set_cons_zero, List.set_cons_succ]
     refine reg_call (i := 13) (by kernel_rfl) rfl (fun K hK => ?_)
     go_simp
     have u2 := u1.alloc (by simp; omega) (.cells #[.int .i64 0, .int .i64 0, .string ⟨#[]⟩, .slice none 0 0] 25)
     refine hK.out _ _ ?_ (fun hHeld => ?_)
     · exact h.below u2 HLT.out
     clear hK K
     try simp only [Act.put, List.setIfInBounds_toArray, List.set_cons_zero, List.set_cons_succ]
     have q0 : Row _ wd.heap.size 25 #[.int .i64 0, .int .i64 0, .string ⟨#[]⟩, .slice none 0 0] := (Row.new wd _ _).alloc (.cells #[.int .i64 0, .int .i64 0, .string ⟨#[]⟩, .slice none 0 0] 25)
     have q1 : Row ((wd.alloc (.cells #[.int .i64 0, .int .i64 0, .string ⟨#[]⟩, .slice none 0 0] 25)).alloc (.cells #[.int .i64 0, .int .i64 0, .string ⟨#[]⟩, .slice none 0 0] 25)) (wd.heap.size + 1) 25 #[.int .i64 0, .int .i64 0, .string ⟨#[]⟩, .slice none 0 0] := by simpa using Row.new (wd.alloc (.cells #[.int .i64 0, .int .i64 0, .string ⟨#[]⟩, .slice none 0 0] 25)) 25 #[.int .i64 0, .int .i64 0, .string ⟨#[]⟩, .slice none 0 0]
     generalize ((wd.alloc (.cells #[.int .i64 0, .int .i64 0, .string ⟨#[]⟩, .slice none 0 0] 25)).alloc (.cells #[.int .i64 0, .int .i64 0, .string ⟨#[]⟩, .slice none 0 0] 25)) = wv at u2 q0 q1 hHeld ⊢
     clear u1
     obtain ⟨m0, m1, m2, m3, n0, n1, n2, n3⟩ := cells8 q0
     refine reg_call (i := 14) (by kernel_rfl) rfl (fun K hK => ?_)
     go_simp
     have u4 := ((((u2.setCell (p := ⟨wd.heap.size, 0, none⟩) hsd (.int .i64 aop)).setCell (p := ⟨wd.heap.size, 1, none⟩) hsd (.int .i64 an)).setCell (p := ⟨wd.heap.size, 2, none⟩) hsd (.string aname)).setCell (p := ⟨wd.heap.size, 3, none⟩) hsd (.slice A3 akids.length p3))
     refine hK.out _ _ ?_ (fun hHeld => ?_)
     · exact h.below u4 HLT.out
     clear hK K
     try simp only [Act.put, List.setIfInBounds_toArray, List.set_cons_zero, List.set_cons_succ]
     have r0 : Row _ (wd.heap.size) 25 #[.int .i64 aop, .int .i64 an, .string aname, .slice A3 akids.length p3] := (((q0.set_ 0 (.int .i64 aop)).set_ 1 (.int .i64 an)).set_ 2 (.string aname)).set_ 3 (.slice A3 akids.length p3)
     have hne : wd.heap.size + 1 ≠ wd.heap.size := by omega
     have r1 := ((((q1.far (p := ⟨wd.heap.size, 0, none⟩) hne (.int .i64 aop)).far (p := ⟨wd.heap.size, 1, none⟩) hne (.int .i64 an)).far (p := ⟨wd.heap.size, 2, none⟩) hne (.string aname)).far (p := ⟨wd.heap.size, 3, none⟩) hne (.slice A3 akids.length p3))
     generalize ((((wv.setCell ⟨wd.heap.size, 0, none⟩ (.int .i64 aop)).setCell ⟨wd.heap.size, 1, none⟩ (.int .i64 an)).setCell ⟨wd.heap.size, 2, none⟩ (.string aname)).setCell ⟨wd.heap.size, 3, none⟩ (.slice A3 akids.length p3)) = wy at u4 r0 r1 hHeld ⊢
     clear u2 m0 m1 m2 m3 n0 n1 n2 n3
     obtain ⟨m0, m1, m2, m3, n0, n1, n2, n3⟩ := cells8 r1
     refine reg_call (i := 15) (by kernel_rfl) rfl (fun K hK => ?_)
     go_simp
     have u6 := ((((u4.setCell (p := ⟨wd.heap.size + 1, 0, none⟩) (Nat.le_succ_of_le hsd) (.int .i64 bop)).setCell (p := ⟨wd.heap.size + 1, 1, none⟩) (Nat.le_succ_of_le hsd) (.int .i64 bn)).setCell (p := ⟨wd.heap.size + 1, 2, none⟩) (Nat.le_succ_of_le hsd) (.string bname)).setCell (p := ⟨wd.heap.size + 1, 3, none⟩) (Nat.le_succ_of_le hsd) (.slice A4 bkids.length p4))
     refine hK.out _ _ ?_ (fun hHeld => ?_)
     · exact h.below u6 HLT.out
     clear hK K
     try simp only [Act.put, List.setIfInBounds_toArray, List.set_cons_zero, List.set_cons_succ]
     have t0 : Row _ (wd.heap.size + 1) 25 #[.int .i64 bop, .int .i64 bn, .string bname, .slice A4 bkids.length p4] := (((r1.set_ 0 (.int .i64 bop)).set_ 1 (.int .i64 bn)).set_ 2 (.string bname)).set_ 3 (.slice A4 bkids.length p4)
     replace hne := hne.symm
     have t1 := ((((r0.far (p := ⟨wd.heap.size + 1, 0, none⟩) hne (.int .i64 bop)).far (p := ⟨wd.heap.size + 1, 1, none⟩) hne (.int .i64 bn)).far (p := ⟨wd.heap.size + 1, 2, none⟩) hne (.string bname)).far (p := ⟨wd.heap.size + 1, 3, none⟩) hne (.slice A4 bkids.length p4))
     refine wpAnyH_done (by kernel_rfl) ?_ _
     go_wp2_with fail
     go_meet
     case rel => exact ⟨_, _, rfl, rfl, t1, t0, by omega, by omega, udd.trans u6⟩
   · go_simp
     have u1 := (Below.refl _ wd).alloc hsd (.cells #[.int .i64 0, .int .i64 0, .string ⟨#[]⟩, .slice none 0 0] 25)
     refine hK.out _ _ ?_ (fun hHeld => ?_)
     · exact h.below u1 HLT.out
     clear hK K
     try simp only [Act.put, List.setIfInBounds_toArray, List.set_cons_zero, List.set_cons_succ]
     refine reg_call (i := 12) (by kernel_rfl) rfl (fun K hK => ?_)
     go_simp
     have u2 := u1.alloc (by simp; omega) (.cells #[.int .i64 0, .int .i64 0, .string ⟨#[]⟩, .slice none 0 0] 25)
     refine hK.out _ _ ?_ (fun hHeld => ?_)
     · exact h.below u2 HLT.out
     clear hK K
     try simp only [Act.put, List.setIfInBounds_toArray, List.set_cons_zero, List.set_cons_succ]
     have q0 : Row _ wd.heap.size 25 #[.int .i64 0, .int .i64 0, .string ⟨#[]⟩, .slice none 0 0] := (Row.new wd _ _).alloc (.cells #[.int .i64 0, .int .i64 0, .string ⟨#[]⟩, .slice none 0 0] 25)
     have q1 : Row ((wd.alloc (.cells #[.int .i64 0, .int .i64 0, .string ⟨#[]⟩, .slice none 0 0] 25)).alloc (.cells #[.int .i64 0, .int .i64 0, .string ⟨#[]⟩, .slice none 0 0] 25)) (wd.heap.size + 1) 25 #[.int .i64 0, .int .i64 0, .string ⟨#[]⟩, .slice none 0 0] := by simpa using Row.new (wd.alloc (.cells #[.int .i64 0, .int .i64 0, .string ⟨#[]⟩, .slice none 0 0] 25)) 25 #[.int .i64 0, .int .i64 0, .string ⟨#[]⟩, .slice none 0 0]
     generalize ((wd.alloc (.cells #[.int .i64 0, .int .i64 0, .string ⟨#[]⟩, .slice none 0 0] 25)).alloc (.cells #[.int .i64 0, .int .i64 0, .string ⟨#[]⟩, .slice none 0 0] 25)) = wv at u2 q0 q1 hHeld ⊢
     clear u1
     obtain ⟨m0, m1, m2, m3, n0, n1, n2, n3⟩ := cells8 q1
     refine reg_call (i := 14) (by kernel_rfl) rfl (fun K hK => ?_)
     go_simp
     have u4 := ((((u2.setCell (p := ⟨wd.heap.size + 1, 0, none⟩) (Nat.le_succ_of_le hsd) (.int .i64 aop)).setCell (p := ⟨wd.heap.size + 1, 1, none⟩) (Nat.le_succ_of_le hsd) (.int .i64 an)).setCell (p := ⟨wd.heap.size + 1, 2, none⟩) (Nat.le_succ_of_le hsd) (.string aname)).setCell (p := ⟨wd.heap.size + 1, 3, none⟩) (Nat.le_succ_of_le hsd) (.slice A3 akids.length p3))
     refine hK.out _ _ ?_ (fun hHeld => ?_)
     · exact h.below u4 HLT.out
     clear hK K
     try simp only [Act.put, List.setIfInBounds_toArray, List.set_cons_zero, List.set_cons_succ]
     have r0 : Row _ (wd.heap.size + 1) 25 #[.int .i64 aop, .int .i64 an, .string aname, .slice A3 akids.length p3] := (((q1.set_ 0 (.int .i64 aop)).set_ 1 (.int .i64 an)).set_ 2 (.string aname)).set_ 3 (.slice A3 akids.length p3)
     have hne : wd.heap.size ≠ wd.heap.size + 1 := by omega
     have r1 := ((((q0.far (p := ⟨wd.heap.size + 1, 0, none⟩) hne (.int .i64 aop)).far (p := ⟨wd.heap.size + 1, 1, none⟩) hne (.int .i64 an)).far (p := ⟨wd.heap.size + 1, 2, none⟩) hne (.string aname)).far (p := ⟨wd.heap.size + 1, 3, none⟩) hne (.slice A3 akids.length p3))
     generalize ((((wv.setCell ⟨wd.heap.size + 1, 0, none⟩ (.int .i64 aop)).setCell ⟨wd.heap.size + 1, 1, none⟩ (.int .i64 an)).setCell ⟨wd.heap.size + 1, 2, none⟩ (.string aname)).setCell ⟨wd.heap.size + 1, 3, none⟩ (.slice A3 akids.length p3)) = wy at u4 r0 r1 hHeld ⊢
     clear u2 m0 m1 m2 m3 n0 n1 n2 n3
     obtain ⟨m0, m1, m2, m3, n0, n1, n2, n3⟩ := cells8 r1
     refine reg_call (i := 15) (by kernel_rfl) rfl (fun K hK => ?_)
     go_simp
     have u6 := ((((u4.setCell (p := ⟨wd.heap.size, 0, none⟩) hsd (.int .i64 bop)).setCell (p := ⟨wd.heap.size, 1, none⟩) hsd (.int .i64 bn)).setCell (p := ⟨wd.heap.size, 2, none⟩) hsd (.string bname)).setCell (p := ⟨wd.heap.size, 3, none⟩) hsd (.slice A4 bkids.length p4))
     refine hK.out _ _ ?_ (fun hHeld => ?_)
     · exact h.below u6 HLT.out
     clear hK K
     try simp only [Act.put, List.setIfInBounds_toArray, List.set_cons_zero, List.set_cons_succ]
     have t0 : Row _ (wd.heap.size) 25 #[.int .i64 bop, .int .i64 bn, .string bname, .slice A4 bkids.length p4] := (((r1.set_ 0 (.int .i64 bop)).set_ 1 (.int .i64 bn)).set_ 2 (.string bname)).set_ 3 (.slice A4 bkids.length p4)
     replace hne := hne.symm
     have t1 := ((((r0.far (p := ⟨wd.heap.size, 0, none⟩) hne (.int .i64 bop)).far (p := ⟨wd.heap.size, 1, none⟩) hne (.int .i64 bn)).far (p := ⟨wd.heap.size, 2, none⟩) hne (.string bname)).far (p := ⟨wd.heap.size, 3, none⟩) hne (.slice A4 bkids.length p4))
     refine wpAnyH_done (by kernel_rfl) ?_ _
     go_wp2_with fail
     go_meet
     case rel => exact ⟨_, _, rfl, rfl, t1, t0, by omega, by omega, udd.trans u6⟩
  case rest =>
   obtain ⟨ga, gb, rfl, rfl, RA, RB, hga, hgb, hbc⟩ := hcut
   replace hw : Below w.heap.size w wc := hw.trans (hbc.mono (by omega))
   replace RE := RE.below hbc (by omega)
   replace RR := RR.below hbc (by omega)
   clear hbc HG HL HLT g_0 k0 k1 k2 k3 k4 k5 k6 k7
   by_cases qa : aop = 1
   case neg =>
    have qa' : (aop == 1) = false := by simpa using qa
    have HN : Hid (numB 10 (Ex.mk aop an aname akids) (Ex.mk bop bn bname bkids) = false) := by show _ = _; simp [numB, Ex.op, qa]
    clear qa
    obtain ⟨y0, y1, y2, y3, y4, y5, y6, y7, y8, y9, ya, yb⟩ := cells12 RE RA RB
    go_wp2_with fail
    refine (impl_isNum aop an aname (.slice A3 akids.length p3) 0 _ akids ⟨_, _, rfl⟩).mono ?_
    rw [HA0.out]
    rintro e w6 ⟨rfl, x6⟩
    clear y0 y1 y2 y3 y4 y5 y6 y7 y8 y9 ya yb
    replace hw := hw.trans (x6.mono hw.size)
    replace RE := RE.below x6 RE.lt
    replace RR := RR.below x6 RR.lt
    replace RA := RA.below x6 RA.lt
    replace RB := RB.below x6 RB.lt
    cases vA0
    case false =>
     obtain ⟨s0, s1, s2, s3, f0, f1, f2, f3⟩ := cells8 RR
     obtain ⟨y0, y1, y2, y3, y4, y5, y6, y7, y8, y9, ya, yb⟩ := cells12 RE RA RB
     have F := leaf_fin (f := T) hw hB (Nat.le_succ _) RR he (by rw [← HTT.out]; unfold foldTwo; simp [HN.out, HA0.out])
     go_wp2_with fail
     refine bodyPost_ret (by simp [results, Tryd.results47, go_sem, s0, s1, s2, s3]) rfl F.out
    case true =>
     obtain ⟨y0, y1, y2, y3, y4, y5, y6, y7, y8, y9, ya, yb⟩ := cells12 RE RA RB
     go_wp2_with fail
     refine (impl_num (d + 1) (0) _ ⟨by omega, by omega⟩).mono ?_
     rintro e w7 ⟨An, cn, rfl, hnr, x7⟩
     clear y0 y1 y2 y3 y4 y5 y6 y7 y8 y9 ya yb
     replace hw := hw.trans (x7.mono hw.size)
     replace RE := RE.below x7 RE.lt
     replace RR := RR.below x7 RR.lt
     replace RA := RA.below x7 RA.lt
     replace RB := RB.below x7 RB.lt
     obtain ⟨s0, s1, s2, s3, f0, f1, f2, f3⟩ := cells8 RR
     obtain ⟨y0, y1, y2, y3, y4, y5, y6, y7, y8, y9, ya, yb⟩ := cells12 RE RA RB
     have F := leaf_fin (f := T) hw hB (Nat.le_succ _) RR (hnr w lo B) (show T = exN1 (0) by rw [← HTT.out]; unfold foldTwo; simp [HN.out, HA0.out])
     go_wp2_with fail
     refine bodyPost_ret (by simp [results, Tryd.results47, go_sem, s0, s1, s2, s3]) rfl F.out
   by_cases qb : bop = 1
   case neg =>
    have qb' : (bop == 1) = false := by simpa using qb
    have HN : Hid (numB 10 (Ex.mk aop an aname akids) (Ex.mk bop bn bname bkids) = false) := by show _ = _; simp [numB, Ex.op, qb]
    subst qa
    clear qb
    obtain ⟨y0, y1, y2, y3, y4, y5, y6, y7, y8, y9, ya, yb⟩ := cells12 RE RA RB
    go_wp2_with fail
    refine (impl_isNum 1 an aname (.slice A3 akids.length p3) 0 _ akids ⟨_, _, rfl⟩).mono ?_
    rw [HA0.out]
    rintro e w6 ⟨rfl, x6⟩
    clear y0 y1 y2 y3 y4 y5 y6 y7 y8 y9 ya yb
    replace hw := hw.trans (x6.mono hw.size)
    replace RE := RE.below x6 RE.lt
    replace RR := RR.below x6 RR.lt
    replace RA := RA.below x6 RA.lt
    replace RB := RB.below x6 RB.lt
    cases vA0
    case false =>
     obtain ⟨s0, s1, s2, s3, f0, f1, f2, f3⟩ := cells8 RR
     obtain ⟨y0, y1, y2, y3, y4, y5, y6, y7, y8, y9, ya, yb⟩ := cells12 RE RA RB
     have F := leaf_fin (f := T) hw hB (Nat.le_succ _) RR he (by rw [← HTT.out]; unfold foldTwo; simp [HN.out, HA0.out])
     go_wp2_with fail
     refine bodyPost_ret (by simp [results, Tryd.results47, go_sem, s0, s1, s2, s3]) rfl F.out
    case true =>
     obtain ⟨y0, y1, y2, y3, y4, y5, y6, y7, y8, y9, ya, yb⟩ := cells12 RE RA RB
     go_wp2_with fail
     refine (impl_num (d + 1) (0) _ ⟨by omega, by omega⟩).mono ?_
     rintro e w7 ⟨An, cn, rfl, hnr, x7⟩
     clear y0 y1 y2 y3 y4 y5 y6 y7 y8 y9 ya yb
     replace hw := hw.trans (x7.mono hw.size)
     replace RE := RE.below x7 RE.lt
     replace RR := RR.below x7 RR.lt
     replace RA := RA.below x7 RA.lt
     replace RB := RB.below x7 RB.lt
     obtain ⟨s0, s1, s2, s3, f0, f1, f2, f3⟩ := cells8 RR
     obtain ⟨y0, y1, y2, y3, y4, y5, y6, y7, y8, y9, ya, yb⟩ := cells12 RE RA RB
     have F := leaf_fin (f := T) hw hB (Nat.le_succ _) RR (hnr w lo B) (show T = exN1 (0) by rw [← HTT.out]; unfold foldTwo; simp [HN.out, HA0.out])
     go_wp2_with fail
     refine bodyPost_ret (by simp [results, Tryd.results47, go_sem, s0, s1, s2, s3]) rfl F.out
   subst qa qb
   obtain ⟨an0, an1⟩ := ra rfl
   obtain ⟨bn0, bn1⟩ := rb rfl
   clear ra rb
   have hv : (arV 10 an bn).2 = true := by simp [arV]
   have HN : Hid (numB 10 (Ex.mk 1 an aname akids) (Ex.mk 1 bn bname bkids) = true) := by show _ = _; simp [numB, Ex.op, Ex.n, hv]
   have HV := Lib.hid hv
   have hI : I64 (arV 10 an bn).1 := by
     have := arV_range (op := 10) an0 an1 bn0 bn1
     exact ⟨by omega, by omega⟩
   clear hv
   obtain ⟨y0, y1, y2, y3, y4, y5, y6, y7, y8, y9, ya, yb⟩ := cells12 RE RA RB
   go_wp2_with fail
   refine (impl_arith 10 an bn _ an0 an1 bn0 bn1).mono ?_
   rw [HV.out]
   rintro e w6 ⟨rfl, hw6⟩
   subst hw6
   clear y0 y1 y2 y3 y4 y5 y6 y7 y8 y9 ya yb
   obtain ⟨y0, y1, y2, y3, y4, y5, y6, y7, y8, y9, ya, yb⟩ := cells12 RE RA RB
   go_wp2_with fail
   refine (impl_num (d + 1) ((arV 10 an bn).1) _ hI).mono ?_
   rintro e w6 ⟨An, cn, rfl, hnr, x6⟩
   clear y0 y1 y2 y3 y4 y5 y6 y7 y8 y9 ya yb
   replace hw := hw.trans (x6.mono hw.size)
   replace RE := RE.below x6 RE.lt
   replace RR := RR.below x6 RR.lt
   replace RA := RA.below x6 RA.lt
   replace RB := RB.below x6 RB.lt
   obtain ⟨s0, s1, s2, s3, f0, f1, f2, f3⟩ := cells8 RR
   obtain ⟨y0, y1, y2, y3, y4, y5, y6, y7, y8, y9, ya, yb⟩ := cells12 RE RA RB
   have F := leaf_fin (f := T) hw hB (Nat.le_succ _) RR (hnr w lo B) (show T = exN1 ((arV 10 an bn).1) by rw [← HTT.out]; unfold foldTwo; rw [if_pos HN.out]; rfl)
   go_wp2_with fail
   refine bodyPost_ret (by simp [results, Tryd.results47, go_sem, s0, s1, s2, s3]) rfl F.out
end Go.Proofs.YthfinoapfbhgcaaDoor

namespace Go.Proofs.YthfinoapfbhgcaaDoor
open Go.RowKit Go.ChangeShapes Go.WideShapes Go.Deep
set_option linter.unusedVariables false
set_option linter.unusedSimpArgs false
set_option maxRecDepth 100000 in
set_option maxHeartbeats 16000000 in
theorem impl_foldPart_11 (d : Nat) (n : Int) (name : ByteArray) (kop kn : Int) (kname : ByteArray) (kkids : List Ex) (A : Option Addr) (p : Nat) (w : World) (lo B : Nat) (hB : B ≤ w.heap.size) (hn : I64 n) (hnm : name.size ≤ maxLen)
    (h3 : ∀ m, SlT m (exT m (d + 1)) w lo B [.mk kop kn kname kkids] (.slice A 1 p)) (rk : kop = 1 → 0 ≤ kn ∧ kn ≤ 255) (hl : kop = 11 → kkids.length = 1)  :
    Calls Tryd.prog 47 #[.agg #[.int .i64 11, .int .i64 n, .string name, .slice A 1 p]] w (FoldRP (d + 1) (foldP (Ex.mk 11 n name [(Ex.mk kop kn kname kkids)])) lo B w) := by
  obtain ⟨blk, op1, n1, nm1, k1, A3, p3, rfl, hlb, hbB, HL1, oa, na, sa, hk', c0, c1, c2, c3⟩ := exT_get d h3 (show 0 < 1 by omega)
  have e1 := HL1.out
  injection e1 with e1 e2 e3 e4
  subst e1 e2 e3 e4
  have he : ∀ m, (exT m (d + 1 + 1)).rep w lo B (Ex.mk 11 n name [(Ex.mk kop kn kname kkids)]) [.int .i64 11, .int .i64 n, .string name, .slice (some ⟨blk, 0, none⟩) 1 p] := fun m => exT_mk m (d + 1) 11 n name _ _ ⟨by omega, by omega⟩ hn hnm (h3 m)
  have hw : Below w.heap.size w ((w.alloc (.cells #[.int .i64 11, .int .i64 n, .string name, .slice (some ⟨blk, 0, none⟩) 1 p] 25)).alloc (.cells #[.int .i64 0, .int .i64 0, .string ⟨#[]⟩, .slice none 0 0] 25)) := ((Below.refl _ _).alloc (Nat.le_refl _) _).alloc (by simp) _
  have RE : Row ((w.alloc (.cells #[.int .i64 11, .int .i64 n, .string name, .slice (some ⟨blk, 0, none⟩) 1 p] 25)).alloc (.cells #[.int .i64 0, .int .i64 0, .string ⟨#[]⟩, .slice none 0 0] 25)) w.heap.size 25 #[.int .i64 11, .int .i64 n, .string name, .slice (some ⟨blk, 0, none⟩) 1 p] := (Row.new w _ _).alloc _
  have RR : Row ((w.alloc (.cells #[.int .i64 11, .int .i64 n, .string name, .slice (some ⟨blk, 0, none⟩) 1 p] 25)).alloc (.cells #[.int .i64 0, .int .i64 0, .string ⟨#[]⟩, .slice none 0 0] 25)) (w.heap.size + 1) 25 #[.int .i64 0, .int .i64 0, .string ⟨#[]⟩, .slice none 0 0] := by simpa using Row.new (w.alloc (.cells #[.int .i64 11, .int .i64 n, .string name, .slice (some ⟨blk, 0, none⟩) 1 p] 25)) 25 #[.int .i64 0, .int .i64 0, .string ⟨#[]⟩, .slice none 0 0]
  have hblk : blk < w.heap.size := by omega

  by_cases q1 : kop = 1
  · subst q1
    obtain ⟨kn0, kn1⟩ := rk rfl
    have EQ : foldP (Ex.mk 11 n name [(Ex.mk 1 kn kname kkids)]) = exN1 (tru (kn == 0)) := by
      unfold foldP
      simp [Ex.op, Ex.n, Ex.kids, hd]
    replace EQ := Lib.hid EQ
    clear rk hl
    have HV : Hid (arV 11 kn kn = (tru (kn == 0), true)) := rfl
    obtain ⟨k0, k1, k2, k3⟩ := kids4 hw hblk c0 c1 c2 c3
    have g_0 := RE.cell 3
    obtain ⟨L, hL⟩ : ∃ L : List (Addr × Value), [(⟨w.heap.size, 3, none⟩, .slice (some ⟨blk, 0, none⟩) 1 p), (⟨blk, 0, none⟩, .int .i64 1), (⟨blk, 1, none⟩, .int .i64 kn), (⟨blk, 2, none⟩, .string kname), (⟨blk, 3, none⟩, .slice A3 kkids.length p3)] = L := ⟨_, rfl⟩
    have HG : Hid (Has ((w.alloc (.cells #[.int .i64 11, .int .i64 n, .string name, .slice (some ⟨blk, 0, none⟩) 1 p] 25)).alloc (.cells #[.int .i64 0, .int .i64 0, .string ⟨#[]⟩, .slice none 0 0] 25)) L) := by
      subst hL
      exact .cons (RE.cell 3) (.cons k0 (.cons k1 (.cons k2 (.cons k3 .nil))))
    have HLT : Hid (∀ x ∈ L, x.1.block < w.heap.size + 2) := by
      subst hL
      exact lcons (by dsimp only; omega) (lcons (by dsimp only; omega) (lcons (by dsimp only; omega) (lcons (by dsimp only; omega) (lcons (by dsimp only; omega) (lnil)))))
    replace hL := Lib.hid hL.symm
    have HL := hL
    clear hL
    go_enter Tryd.func47, Tryd.ntmps47
    go_wp2_with fail
    go_cut [3, 4] (fun s3 s4 wx => ∃ ga gb : Nat, s3 = .pointer (some ⟨ga, 0, none⟩) ∧ s4 = .pointer (some ⟨gb, 0, none⟩) ∧ Row wx ga 25 #[.int .i64 1, .int .i64 kn, .string kname, .slice A3 kkids.length p3] ∧ Row wx gb 25 #[.int .i64 1, .int .i64 kn, .string kname, .slice A3 kkids.length p3] ∧ w.heap.size + 1 < ga ∧ w.heap.size + 1 < gb ∧ Below (w.heap.size + 2) ((w.alloc (.cells #[.int .i64 11, .int .i64 n, .string name, .slice (some ⟨blk, 0, none⟩) 1 p] 25)).alloc (.cells #[.int .i64 0, .int .i64 0, .string ⟨#[]⟩, .slice none 0 0] 25)) wx)
    case first =>
     refine wp_region_held_drew (S := fun w' => Has w' L) (by kernel_rfl) ?_ (fun hHeld => ?_)
     · exact HG.out
     have udd : Below (w.heap.size + 2) ((w.alloc (.cells #[.int .i64 11, .int .i64 n, .string name, .slice (some ⟨blk, 0, none⟩) 1 p] 25)).alloc (.cells #[.int .i64 0, .int .i64 0, .string ⟨#[]⟩, .slice none 0 0] 25)) ((w.alloc (.cells #[.int .i64 11, .int .i64 n, .string name, .slice (some ⟨blk, 0, none⟩) 1 p] 25)).alloc (.cells #[.int .i64 0, .int .i64 0, .string ⟨#[]⟩, .slice none 0 0] 25)).drew := (Below.refl _ _).drew
     have hsd : w.heap.size + 2 ≤ ((w.alloc (.cells #[.int .i64 11, .int .i64 n, .string name, .slice (some ⟨blk, 0, none⟩) 1 p] 25)).alloc (.cells #[.int .i64 0, .int .i64 0, .string ⟨#[]⟩, .slice none 0 0] 25)).drew.heap.size := by show _ ≤ ((w.alloc (.cells #[.int .i64 11, .int .i64 n, .string name, .slice (some ⟨blk, 0, none⟩) 1 p] 25)).alloc (.cells #[.int .i64 0, .int .i64 0, .string ⟨#[]⟩, .slice none 0 0] 25)).heap.size; simp
     have h : Has ((w.alloc (.cells #[.int .i64 11, .int .i64 n, .string name, .slice (some ⟨blk, 0, none⟩) 1 p] 25)).alloc (.cells #[.int .i64 0, .int .i64 0, .string ⟨#[]⟩, .slice none 0 0] 25)).drew L := HG.out
     generalize ((w.alloc (.cells #[.int .i64 11, .int .i64 n, .string name, .slice (some ⟨blk, 0, none⟩) 1 p] 25)).alloc (.cells #[.int .i64 0, .int .i64 0, .string ⟨#[]⟩, .slice none 0 0] 25)).drew = wd at udd hsd hHeld h ⊢
     have h9 := h.five HL.out
     dsimp only at h9
     obtain ⟨h_0, h_1, h_2, h_3, h_4⟩ := h9
     refine reg_take (i := 0) (v := ?v1) rfl (by kernel_rfl) (by kernel_rfl) (by kernel_rfl) (fun _ _ _ h => h) (Or.inl ⟨by kernel_rfl, ?h1⟩) (by assumption) ?r1
     case h1 => (intro w hSw; have hSw := Has.five hSw HL.out; dsimp only at hSw; go_simp; try with_reducible rfl)
     try simp only [Act.put, List.setIfInBounds_toArray, List.set_cons_zero, List.set_cons_succ]
     refine reg_take (i := 1) (v := ?v2) rfl (by kernel_rfl) (by kernel_rfl) (by kernel_rfl) (fun _ _ _ h => h) (Or.inl ⟨by kernel_rfl, ?h2⟩) (by assumption) ?r2
     case h2 => (intro w hSw; have hSw := Has.five hSw HL.out; dsimp only at hSw; go_simp; try with_reducible rfl)
     try simp only [Act.put, List.setIfInBounds_toArray, List.set_cons_zero, List.set_cons_succ]
     refine reg_take (i := 2) (v := ?v3) rfl (by kernel_rfl) (by kernel_rfl) (by kernel_rfl) (fun _ _ _ h => h) (Or.inl ⟨by kernel_rfl, ?h3⟩) (by assumption) ?r3
     case h3 => (intro w hSw; have hSw := Has.five hSw HL.out; dsimp only at hSw; go_simp; try with_reducible rfl)
     try simp only [Act.put, List.setIfInBounds_toArray, List.set_cons_zero, List.set_cons_succ]
     refine reg_take (i := 3) (v := ?v4) rfl (by kernel_rfl) (by kernel_rfl) (by kernel_rfl) (fun _ _ _ h => h) (Or.inl ⟨by kernel_rfl, ?h4⟩) (by assumption) ?r4
     case h4 => (intro w hSw; have hSw := Has.five hSw HL.out; dsimp only at hSw; go_simp; try with_reducible rfl)
     try simp only [Act.put, List.setIfInBounds_toArray, List.set_cons_zero, List.set_cons_succ]
     refine reg_take (i := 4) (v := ?v5) rfl (by kernel_rfl) (by kernel_rfl) (by kernel_rfl) (fun _ _ _ h => h) (Or.inl ⟨by kernel_rfl, ?h5⟩) (by assumption) ?r5
     case h5 => (intro w hSw; have hSw := Has.five hSw HL.out; dsimp only at hSw; go_simp; try with_reducible rfl)
     try simp only [Act.put, List.setIfInBounds_toArray, List.set_cons_zero, List.set_cons_succ]
     refine reg_take (i := 5) (v := ?v6) rfl (by kernel_rfl) (by kernel_rfl) (by kernel_rfl) (fun _ _ _ h => h) (Or.inl ⟨by kernel_rfl, ?h6⟩) (by assumption) ?r6
     case h6 => (intro w hSw; have hSw := Has.five hSw HL.out; dsimp only at hSw; go_simp; try with_reducible rfl)
     try simp only [Act.put, List.setIfInBounds_toArray, List.set_cons_zero, List.set_cons_succ]
     refine reg_take (i := 6) (v := ?v7) rfl (by kernel_rfl) (by kernel_rfl) (by kernel_rfl) (fun _ _ _ h => h) (Or.inl ⟨by kernel_rfl, ?h7⟩) (by assumption) ?r7
     case h7 => (intro w hSw; have hSw := Has.five hSw HL.out; dsimp only at hSw; go_simp; try with_reducible rfl)
     try simp only [Act.put, List.setIfInBounds_toArray, List.set_cons_zero, List.set_cons_succ]
     refine reg_take (i := 7) (v := ?v8) rfl (by kernel_rfl) (by kernel_rfl) (by kernel_rfl) (fun _ _ _ h => h) (Or.inl ⟨by kernel_rfl, ?h8⟩) (by assumption) ?r8
     case h8 => (intro w hSw; have hSw := Has.five hSw HL.out; dsimp only at hSw; go_simp; try with_reducible rfl)
     try simp only [Act.put, List.setIfInBounds_toArray, List.set_cons_zero, List.set_cons_succ]
     refine reg_take (i := 8) (v := ?v9) rfl (by kernel_rfl) (by kernel_rfl) (by kernel_rfl) (fun _ _ _ h => h) (Or.inl ⟨by kernel_rfl, ?h9⟩) (by assumption) ?r9
     case h9 => (intro w hSw; have hSw := Has.five hSw HL.out; dsimp only at hSw; go_simp; try with_reducible rfl)
     try simp only [Act.put, List.setIfInBounds_toArray, List.set_cons_zero, List.set_cons_succ]
     refine reg_take (i := 9) (v := .int .i64 0) rfl (by kernel_rfl) (by kernel_rfl) (by kernel_rfl) (fun _ _ _ h => h) (Or.inl ⟨by kernel_rfl, ?h10⟩) (by assumption) ?r10
     case h10 => (intro w hSw; have hSw := Has.five hSw HL.out; dsimp only at hSw; go_simp; try rfl)
     try simp only [Act.put, List.setIfInBounds_toArray, List.set_cons_zero, List.set_cons_succ]
     refine reg_take (i := 10) (v := ?v11) rfl (by kernel_rfl) (by kernel_rfl) (by kernel_rfl) (fun _ _ _ h => h) (Or.inl ⟨by kernel_rfl, ?h11⟩) (by assumption) ?r11
     case h11 => (intro w hSw; have hSw := Has.five hSw HL.out; dsimp only at hSw; go_simp; try with_reducible rfl)
     try simp only [Act.put, List.setIfInBounds_toArray, List.set_cons_zero, List.set_cons_succ]
     refine reg_take (i := 11) (v := ?v12) rfl (by kernel_rfl) (by kernel_rfl) (by kernel_rfl) (fun _ _ _ h => h) (Or.inl ⟨by kernel_rfl, ?h12⟩) (by assumption) ?r12
     case h12 => (intro w hSw; have hSw := Has.five hSw HL.out; dsimp only at hSw; go_simp; try with_reducible rfl)
     try simp only [Act.put, List.setIfInBounds_toArray, List.set_cons_zero, List.set_cons_succ]
     refine reg_call2 (i := 12) (j := 13) (by kernel_rfl) rfl rfl (fun K hK => ?_) (fun K hK => ?_)
     · go_simp
       have u1 := (Below.refl _ wd).alloc hsd (.cells #[.int .i64 0, .int .i64 0, .string ⟨#[]⟩, .slice none 0 0] 25)
       refine hK.out _ _ ?_ (fun hHeld => ?_)
       · exact h.below u1 HLT.out
       clear hK K
       try simp only [Act.put, List.setIfInBounds_toArray, List.set_cons_zero, List.set_cons_succ]
       refine reg_call (i := 13) (by kernel_rfl) rfl (fun K hK => ?_)
       go_simp
       have u2 := u1.alloc (by simp; omega) (.cells #[.int .i64 0, .int .i64 0, .string ⟨#[]⟩, .slice none 0 0] 25)
       refine hK.out _ _ ?_ (fun hHeld => ?_)
       · exact h.below u2 HLT.out
       clear hK K
       try simp only [Act.put, List.setIfInBounds_toArray, List.set_cons_zero, List.set_cons_succ]
       have q0 : Row _ wd.heap.size 25 #[.int .i64 0, .int .i64 0, .string ⟨#[]⟩, .slice none 0 0] := (Row.new wd _ _).alloc (.cells #[.int .i64 0, .int .i64 0, .string ⟨#[]⟩, .slice none 0 0] 25)
       have q1 : Row ((wd.alloc (.cells #[.int .i64 0, .int .i64 0, .string ⟨#[]⟩, .slice none 0 0] 25)).alloc (.cells #[.int .i64 0, .int .i64 0, .string ⟨#[]⟩, .slice none 0 0] 25)) (wd.heap.size + 1) 25 #[.int .i64 0, .int .i64 0, .string ⟨#[]⟩, .slice none 0 0] := by simpa using Row.new (wd.alloc (.cells #[.int .i64 0, .int .i64 0, .string ⟨#[]⟩, .slice none 0 0] 25)) 25 #[.int .i64 0, .int .i64 0, .string ⟨#[]⟩, .slice none 0 0]
       generalize ((wd.alloc (.cells #[.int .i64 0, .int .i64 0, .string ⟨#[]⟩, .slice none 0 0] 25)).alloc (.cells #[.int .i64 0, .int .i64 0, .string ⟨#[]⟩, .slice none 0 0] 25)) = wv at u2 q0 q1 hHeld ⊢
       clear u1
       obtain ⟨m0, m1, m2, m3, n0, n1, n2, n3⟩ := cells8 q0
       refine reg_call (i := 14) (by kernel_rfl) rfl (fun K hK => ?_)
       go_simp
       have u4 := ((((u2.setCell (p := ⟨wd.heap.size, 0, none⟩) hsd (.int .i64 1)).setCell (p := ⟨wd.heap.size, 1, none⟩) hsd (.int .i64 kn)).setCell (p := ⟨wd.heap.size, 2, none⟩) hsd (.string kname)).setCell (p := ⟨wd.heap.size, 3, none⟩) hsd (.slice A3 kkids.length p3))
       refine hK.out _ _ ?_ (fun hHeld => ?_)
       · exact h.below u4 HLT.out
       clear hK K
       try simp only [Act.put, List.setIfInBounds_toArray, List.set_cons_zero, List.set_cons_succ]
       have r0 : Row _ (wd.heap.size) 25 #[.int .i64 1, .int .i64 kn, .string kname, .slice A3 kkids.length p3] := (((q0.set_ 0 (.int .i64 1)).set_ 1 (.int .i64 kn)).set_ 2 (.string kname)).set_ 3 (.slice A3 kkids.length p3)
       have hne : wd.heap.size + 1 ≠ wd.heap.size := by omega
       have r1 := ((((q1.far (p := ⟨wd.heap.size, 0, none⟩) hne (.int .i64 1)).far (p := ⟨wd.heap.size, 1, none⟩) hne (.int .i64 kn)).far (p := ⟨wd.heap.size, 2, none⟩) hne (.string kname)).far (p := ⟨wd.heap.size, 3, none⟩) hne (.slice A3 kkids.length p3))
       generalize ((((wv.setCell ⟨wd.heap.size, 0, none⟩ (.int .i64 1)).setCell ⟨wd.heap.size, 1, none⟩ (.int .i64 kn)).setCell ⟨wd.heap.size, 2, none⟩ (.string kname)).setCell ⟨wd.heap.size, 3, none⟩ (.slice A3 kkids.length p3)) = wy at u4 r0 r1 hHeld ⊢
       clear u2 m0 m1 m2 m3 n0 n1 n2 n3
       obtain ⟨m0, m1, m2, m3, n0, n1, n2, n3⟩ := cells8 r1
       refine reg_call (i := 15) (by kernel_rfl) rfl (fun K hK => ?_)
       go_simp
       have u6 := ((((u4.setCell (p := ⟨wd.heap.size + 1, 0, none⟩) (Nat.le_succ_of_le hsd) (.int .i64 1)).setCell (p := ⟨wd.heap.size + 1, 1, none⟩) (Nat.le_succ_of_le hsd) (.int .i64 kn)).setCell (p := ⟨wd.heap.size + 1, 2, none⟩) (Nat.le_succ_of_le hsd) (.string kname)).setCell (p := ⟨wd.heap.size + 1, 3, none⟩) (Nat.le_succ_of_le hsd) (.slice A3 kkids.length p3))
       refine hK.out _ _ ?_ (fun hHeld => ?_)
       · exact h.below u6 HLT.out
       clear hK K
       try simp only [Act.put, List.setIfInBounds_toArray, List.set_cons_zero, List.set_cons_succ]
       have t0 : Row _ (wd.heap.size + 1) 25 #[.int .i64 1, .int .i64 kn, .string kname, .slice A3 kkids.length p3] := (((r1.set_ 0 (.int .i64 1)).set_ 1 (.int .i64 kn)).set_ 2 (.string kname)).set_ 3 (.slice A3 kkids.length p3)
       replace hne := hne.symm
       have t1 := ((((r0.far (p := ⟨wd.heap.size + 1, 0, none⟩) hne (.int .i64 1)).far (p := ⟨wd.heap.size + 1, 1, none⟩) hne (.int .i64 kn)).far (p := ⟨wd.heap.size + 1, 2, none⟩) hne (.string kname)).far (p := ⟨wd.heap.size + 1, 3, none⟩) hne (.slice A3 kkids.length p3))
       refine wpAnyH_done (by kernel_rfl) ?_ _
       go_wp2_with fail
       go_meet
       case rel => exact ⟨_, _, rfl, rfl, t1, t0, by omega, by omega, udd.trans u6⟩
     · go_simp
       have u1 := (Below.refl _ wd).alloc hsd (.cells #[.int .i64 0, .int .i64 0, .string ⟨#[]⟩, .slice none 0 0] 25)
       refine hK.out _ _ ?_ (fun hHeld => ?_)
       · exact h.below u1 HLT.out
       clear hK K
       try simp only [Act.put, List.setIfInBounds_toArray, List.set_cons_zero, List.set_cons_succ]
       refine reg_call (i := 12) (by kernel_rfl) rfl (fun K hK => ?_)
       go_simp
       have u2 := u1.alloc (by simp; omega) (.cells #[.int .i64 0, .int .i64 0, .string ⟨#[]⟩, .slice none 0 0] 25)
       refine hK.out _ _ ?_ (fun hHeld => ?_)
       · exact h.below u2 HLT.out
       clear hK K
       try simp only [Act.put, List.setIfInBounds_toArray, List.set_cons_zero, List.set_cons_succ]
       have q0 : Row _ wd.heap.size 25 #[.int .i64 0, .int .i64 0, .string ⟨#[]⟩, .slice none 0 0] := (Row.new wd _ _).alloc (.cells #[.int .i64 0, .int .i64 0, .string ⟨#[]⟩, .slice none 0 0] 25)
       have q1 : Row ((wd.alloc (.cells #[.int .i64 0, .int .i64 0, .string ⟨#[]⟩, .slice none 0 0] 25)).alloc (.cells #[.int .i64 0, .int .i64 0, .string ⟨#[]⟩, .slice none 0 0] 25)) (wd.heap.size + 1) 25 #[.int .i64 0, .int .i64 0, .string ⟨#[]⟩, .slice none 0 0] := by simpa using Row.new (wd.alloc (.cells #[.int .i64 0, .int .i64 0, .string ⟨#[]⟩, .slice none 0 0] 25)) 25 #[.int .i64 0, .int .i64 0, .string ⟨#[]⟩, .slice none 0 0]
       generalize ((wd.alloc (.cells #[.int .i64 0, .int .i64 0, .string ⟨#[]⟩, .slice none 0 0] 25)).alloc (.cells #[.int .i64 0, .int .i64 0, .string ⟨#[]⟩, .slice none 0 0] 25)) = wv at u2 q0 q1 hHeld ⊢
       clear u1
       obtain ⟨m0, m1, m2, m3, n0, n1, n2, n3⟩ := cells8 q1
       refine reg_call (i := 14) (by kernel_rfl) rfl (fun K hK => ?_)
       go_simp
       have u4 := ((((u2.setCell (p := ⟨wd.heap.size + 1, 0, none⟩) (Nat.le_succ_of_le hsd) (.int .i64 1)).setCell (p := ⟨wd.heap.size + 1, 1, none⟩) (Nat.le_succ_of_le hsd) (.int .i64 kn)).setCell (p := ⟨wd.heap.size + 1, 2, none⟩) (Nat.le_succ_of_le hsd) (.string kname)).setCell (p := ⟨wd.heap.size + 1, 3, none⟩) (Nat.le_succ_of_le hsd) (.slice A3 kkids.length p3))
       refine hK.out _ _ ?_ (fun hHeld => ?_)
       · exact h.below u4 HLT.out
       clear hK K
       try simp only [Act.put, List.setIfInBounds_toArray, List.set_cons_zero, List.set_cons_succ]
       have r0 : Row _ (wd.heap.size + 1) 25 #[.int .i64 1, .int .i64 kn, .string kname, .slice A3 kkids.length p3] := (((q1.set_ 0 (.int .i64 1)).set_ 1 (.int .i64 kn)).set_ 2 (.string kname)).set_ 3 (.slice A3 kkids.length p3)
       have hne : wd.heap.size ≠ wd.heap.size + 1 := by omega
       have r1 := ((((q0.far (p := ⟨wd.heap.size + 1, 0, none⟩) hne (.int .i64 1)).far (p := ⟨wd.heap.size + 1, 1, none⟩) hne (.int .i64 kn)).far (p := ⟨wd.heap.size + 1, 2, none⟩) hne (.string kname)).far (p := ⟨wd.heap.size + 1, 3, none⟩) hne (.slice A3 kkids.length p3))
       generalize ((((wv.setCell ⟨wd.heap.size + 1, 0, none⟩ (.int .i64 1)).setCell ⟨wd.heap.size + 1, 1, none⟩ (.int .i64 kn)).setCell ⟨wd.heap.size + 1, 2, none⟩ (.string kname)).setCell ⟨wd.heap.size + 1, 3, none⟩ (.slice A3 kkids.length p3)) = wy at u4 r0 r1 hHeld ⊢
       clear u2 m0 m1 m2 m3 n0 n1 n2 n3
       obtain ⟨m0, m1, m2, m3, n0, n1, n2, n3⟩ := cells8 r1
       refine reg_call (i := 15) (by kernel_rfl) rfl (fun K hK => ?_)
       go_simp
       have u6 := ((((u4.setCell (p := ⟨wd.heap.size, 0, none⟩) hsd (.int .i64 1)).setCell (p := ⟨wd.heap.size, 1, none⟩) hsd (.int .i64 kn)).setCell (p := ⟨wd.heap.size, 2, none⟩) hsd (.string kname)).setCell (p := ⟨wd.heap.size, 3, none⟩) hsd (.slice A3 kkids.length p3))
       refine hK.out _ _ ?_ (fun hHeld => ?_)
       · exact h.below u6 HLT.out
       clear hK K
       try simp only [Act.put, List.setIfInBounds_toArray, List.set_cons_zero, List.set_cons_succ]
       have t0 : Row _ (wd.heap.size) 25 #[.int .i64 1, .int .i64 kn, .string kname, .slice A3 kkids.length p3] := (((r1.set_ 0 (.int .i64 1)).set_ 1 (.int .i64 kn)).set_ 2 (.string kname)).set_ 3 (.slice A3 kkids.length p3)
       replace hne := hne.symm
       have t1 := ((((r0.far (p := ⟨wd.heap.size, 0, none⟩) hne (.int .i64 1)).far (p := ⟨wd.heap.size, 1, none⟩) hne (.int .i64 kn)).far (p := ⟨wd.heap.size, 2, none⟩) hne (.string kname)).far (p := ⟨wd.heap.size, 3, none⟩) hne (.slice A3 kkids.length p3))
       refine wpAnyH_done (by kernel_rfl) ?_ _
       go_wp2_with fail
       go_meet
       case rel => exact ⟨_, _, rfl, rfl, t1, t0, by omega, by omega, udd.trans u6⟩
    case rest =>
     obtain ⟨ga, gb, rfl, rfl, RA, RB, hga, hgb, hbc⟩ := hcut
     replace hw : Below w.heap.size w wc := hw.trans (hbc.mono (by omega))
     replace RE := RE.below hbc (by omega)
     replace RR := RR.below hbc (by omega)
     clear hbc HG HL HLT g_0 k0 k1 k2 k3
     obtain ⟨y0, y1, y2, y3, y4, y5, y6, y7, y8, y9, ya, yb⟩ := cells12 RE RA RB
     go_wp2_with fail
     refine (impl_arith 11 kn kn _ kn0 kn1 kn0 kn1).mono ?_
     rw [HV.out]
     rintro e w6 ⟨rfl, hw6⟩
     subst hw6
     clear y0 y1 y2 y3 y4 y5 y6 y7 y8 y9 ya yb
     obtain ⟨y0, y1, y2, y3, y4, y5, y6, y7, y8, y9, ya, yb⟩ := cells12 RE RA RB
     go_wp2_with fail
     refine (impl_num (d + 1) (tru (kn == 0)) _ ⟨by have := tru_range (kn == 0); omega, by have := tru_range (kn == 0); omega⟩).mono ?_
     rintro e w7 ⟨An, cn, rfl, hnr, x7⟩
     clear y0 y1 y2 y3 y4 y5 y6 y7 y8 y9 ya yb
     replace hw := hw.trans (x7.mono hw.size)
     replace RE := RE.below x7 RE.lt
     replace RR := RR.below x7 RR.lt
     replace RA := RA.below x7 RA.lt
     replace RB := RB.below x7 RB.lt
     obtain ⟨s0, s1, s2, s3, f0, f1, f2, f3⟩ := cells8 RR
     obtain ⟨y0, y1, y2, y3, y4, y5, y6, y7, y8, y9, ya, yb⟩ := cells12 RE RA RB
     have F := leaf_fin hw hB (Nat.le_succ _) RR (hnr w lo B) EQ.out
     clear EQ
     go_wp2_with fail
     refine bodyPost_ret (by simp [results, Tryd.results47, go_sem, s0, s1, s2, s3]) rfl F.out
  by_cases q11 : kop = 11
  · subst q11
    obtain ⟨d', rfl⟩ := exS_pos (exT_kids d (hk' false)).exS (show 0 < kkids.length by rw [hl rfl]; omega)
    have hkk := fun m => exT_kids (d' + 1) (hk' m)
    obtain ⟨blj, jop, jn, jname, jkids, A5, p5, rfl, _, hbj, HJ, jo, jn64, jnm, hj', i0, i1, i2, i3⟩ := exT_get d' hkk (show 0 < kkids.length by rw [hl rfl]; omega)
    have hkl : kkids = [.mk jop jn jname jkids] := one_list (hl rfl) HJ.out
    have hj : ∀ m, (exT m (d' + 1 + 1 + 1)).rep w lo B (.mk jop jn jname jkids) [.int .i64 jop, .int .i64 jn, .string jname, .slice A5 jkids.length p5] := fun m => exT_le m (by omega) (hj' m)
    clear hkk hj' HJ
    subst hkl

    clear rk hl
    obtain ⟨k0, k1, k2, k3⟩ := kids4 hw hblk c0 c1 c2 c3
    have g_0 := RE.cell 3
    obtain ⟨L, hL⟩ : ∃ L : List (Addr × Value), [(⟨w.heap.size, 3, none⟩, .slice (some ⟨blk, 0, none⟩) 1 p), (⟨blk, 0, none⟩, .int .i64 11), (⟨blk, 1, none⟩, .int .i64 kn), (⟨blk, 2, none⟩, .string kname), (⟨blk, 3, none⟩, .slice (some ⟨blj, 0, none⟩) 1 p3)] = L := ⟨_, rfl⟩
    have HG : Hid (Has ((w.alloc (.cells #[.int .i64 11, .int .i64 n, .string name, .slice (some ⟨blk, 0, none⟩) 1 p] 25)).alloc (.cells #[.int .i64 0, .int .i64 0, .string ⟨#[]⟩, .slice none 0 0] 25)) L) := by
      subst hL
      exact .cons (RE.cell 3) (.cons k0 (.cons k1 (.cons k2 (.cons k3 .nil))))
    have HLT : Hid (∀ x ∈ L, x.1.block < w.heap.size + 2) := by
      subst hL
      exact lcons (by dsimp only; omega) (lcons (by dsimp only; omega) (lcons (by dsimp only; omega) (lcons (by dsimp only; omega) (lcons (by dsimp only; omega) (lnil)))))
    replace hL := Lib.hid hL.symm
    have HL := hL
    clear hL
    go_enter Tryd.func47, Tryd.ntmps47
    go_wp2_with fail
    go_cut [3, 4] (fun s3 s4 wx => ∃ ga gb : Nat, s3 = .pointer (some ⟨ga, 0, none⟩) ∧ s4 = .pointer (some ⟨gb, 0, none⟩) ∧ Row wx ga 25 #[.int .i64 11, .int .i64 kn, .string kname, .slice (some ⟨blj, 0, none⟩) 1 p3] ∧ Row wx gb 25 #[.int .i64 11, .int .i64 kn, .string kname, .slice (some ⟨blj, 0, none⟩) 1 p3] ∧ w.heap.size + 1 < ga ∧ w.heap.size + 1 < gb ∧ Below (w.heap.size + 2) ((w.alloc (.cells #[.int .i64 11, .int .i64 n, .string name, .slice (some ⟨blk, 0, none⟩) 1 p] 25)).alloc (.cells #[.int .i64 0, .int .i64 0, .string ⟨#[]⟩, .slice none 0 0] 25)) wx)
    case first =>
     refine wp_region_held_drew (S := fun w' => Has w' L) (by kernel_rfl) ?_ (fun hHeld => ?_)
     · exact HG.out
     have udd : Below (w.heap.size + 2) ((w.alloc (.cells #[.int .i64 11, .int .i64 n, .string name, .slice (some ⟨blk, 0, none⟩) 1 p] 25)).alloc (.cells #[.int .i64 0, .int .i64 0, .string ⟨#[]⟩, .slice none 0 0] 25)) ((w.alloc (.cells #[.int .i64 11, .int .i64 n, .string name, .slice (some ⟨blk, 0, none⟩) 1 p] 25)).alloc (.cells #[.int .i64 0, .int .i64 0, .string ⟨#[]⟩, .slice none 0 0] 25)).drew := (Below.refl _ _).drew
     have hsd : w.heap.size + 2 ≤ ((w.alloc (.cells #[.int .i64 11, .int .i64 n, .string name, .slice (some ⟨blk, 0, none⟩) 1 p] 25)).alloc (.cells #[.int .i64 0, .int .i64 0, .string ⟨#[]⟩, .slice none 0 0] 25)).drew.heap.size := by show _ ≤ ((w.alloc (.cells #[.int .i64 11, .int .i64 n, .string name, .slice (some ⟨blk, 0, none⟩) 1 p] 25)).alloc (.cells #[.int .i64 0, .int .i64 0, .string ⟨#[]⟩, .slice none 0 0] 25)).heap.size; simp
     have h : Has ((w.alloc (.cells #[.int .i64 11, .int .i64 n, .string name, .slice (some ⟨blk, 0, none⟩) 1 p] 25)).alloc (.cells #[.int .i64 0, .int .i64 0, .string ⟨#[]⟩, .slice none 0 0] 25)).drew L := HG.out
     generalize ((w.alloc (.cells #[.int .i64 11, .int .i64 n, .string name, .slice (some ⟨blk, 0, none⟩) 1 p] 25)).alloc (.cells #[.int .i64 0, .int .i64 0, .string ⟨#[]⟩, .slice none 0 0] 25)).drew = wd at udd hsd hHeld h ⊢
     have h9 := h.five HL.out
     dsimp only at h9
     obtain ⟨h_0, h_1, h_2, h_3, h_4⟩ := h9
     refine reg_take (i := 0) (v := ?v13) rfl (by kernel_rfl) (by kernel_rfl) (by kernel_rfl) (fun _ _ _ h => h) (Or.inl ⟨by kernel_rfl, ?h13⟩) (by assumption) ?r13
     case h13 => (intro w hSw; have hSw := Has.five hSw HL.out; dsimp only at hSw; go_simp; try with_reducible rfl)
     try simp only [Act.put, List.setIfInBounds_toArray, List.set_cons_zero, List.set_cons_succ]
     refine reg_take (i := 1) (v := ?v14) rfl (by kernel_rfl) (by kernel_rfl) (by kernel_rfl) (fun _ _ _ h => h) (Or.inl ⟨by kernel_rfl, ?h14⟩) (by assumption) ?r14
     case h14 => (intro w hSw; have hSw := Has.five hSw HL.out; dsimp only at hSw; go_simp; try with_reducible rfl)
     try simp only [Act.put, List.setIfInBounds_toArray, List.set_cons_zero, List.set_cons_succ]
     refine reg_take (i := 2) (v := ?v15) rfl (by kernel_rfl) (by kernel_rfl) (by kernel_rfl) (fun _ _ _ h => h) (Or.inl ⟨by kernel_rfl, ?h15⟩) (by assumption) ?r15
     case h15 => (intro w hSw; have hSw := Has.five hSw HL.out; dsimp only at hSw; go_simp; try with_reducible rfl)
     try simp only [Act.put, List.setIfInBounds_toArray, List.set_cons_zero, List.set_cons_succ]
     refine reg_take (i := 3) (v := ?v16) rfl (by kernel_rfl) (by kernel_rfl) (by kernel_rfl) (fun _ _ _ h => h) (Or.inl ⟨by kernel_rfl, ?h16⟩) (by assumption) ?r16
     case h16 => (intro w hSw; have hSw := Has.five hSw HL.out; dsimp only at hSw; go_simp; try with_reducible rfl)
     try simp only [Act.put, List.setIfInBounds_toArray, List.set_cons_zero, List.set_cons_succ]
     refine reg_take (i := 4) (v := ?v17) rfl (by kernel_rfl) (by kernel_rfl) (by kernel_rfl) (fun _ _ _ h => h) (Or.inl ⟨by kernel_rfl, ?h17⟩) (by assumption) ?r17
     case h17 => (intro w hSw; have hSw := Has.five hSw HL.out; dsimp only at hSw; go_simp; try with_reducible rfl)
     try simp only [Act.put, List.setIfInBounds_toArray, List.set_cons_zero, List.set_cons_succ]
     refine reg_take (i := 5) (v := ?v18) rfl (by kernel_rfl) (by kernel_rfl) (by kernel_rfl) (fun _ _ _ h => h) (Or.inl ⟨by kernel_rfl, ?h18⟩) (by assumption) ?r18
     case h18 => (intro w hSw; have hSw := Has.five hSw HL.out; dsimp only at hSw; go_simp; try with_reducible rfl)
     try simp only [Act.put, List.setIfInBounds_toArray, List.set_cons_zero, List.set_cons_succ]
     refine reg_take (i := 6) (v := ?v19) rfl (by kernel_rfl) (by kernel_rfl) (by kernel_rfl) (fun _ _ _ h => h) (Or.inl ⟨by kernel_rfl, ?h19⟩) (by assumption) ?r19
     case h19 => (intro w hSw; have hSw := Has.five hSw HL.out; dsimp only at hSw; go_simp; try with_reducible rfl)
     try simp only [Act.put, List.setIfInBounds_toArray, List.set_cons_zero, List.set_cons_succ]
     refine reg_take (i := 7) (v := ?v20) rfl (by kernel_rfl) (by kernel_rfl) (by kernel_rfl) (fun _ _ _ h => h) (Or.inl ⟨by kernel_rfl, ?h20⟩) (by assumption) ?r20
     case h20 => (intro w hSw; have hSw := Has.five hSw HL.out; dsimp only at hSw; go_simp; try with_reducible rfl)
     try simp only [Act.put, List.setIfInBounds_toArray, List.set_cons_zero, List.set_cons_succ]
     refine reg_take (i := 8) (v := ?v21) rfl (by kernel_rfl) (by kernel_rfl) (by kernel_rfl) (fun _ _ _ h => h) (Or.inl ⟨by kernel_rfl, ?h21⟩) (by assumption) ?r21
     case h21 => (intro w hSw; have hSw := Has.five hSw HL.out; dsimp only at hSw; go_simp; try with_reducible rfl)
     try simp only [Act.put, List.setIfInBounds_toArray, List.set_cons_zero, List.set_cons_succ]
     refine reg_take (i := 9) (v := .int .i64 0) rfl (by kernel_rfl) (by kernel_rfl) (by kernel_rfl) (fun _ _ _ h => h) (Or.inl ⟨by kernel_rfl, ?h22⟩) (by assumption) ?r22
     case h22 => (intro w hSw; have hSw := Has.five hSw HL.out; dsimp only at hSw; go_simp; try rfl)
     try simp only [Act.put, List.setIfInBounds_toArray, List.set_cons_zero, List.set_cons_succ]
     refine reg_take (i := 10) (v := ?v23) rfl (by kernel_rfl) (by kernel_rfl) (by kernel_rfl) (fun _ _ _ h => h) (Or.inl ⟨by kernel_rfl, ?h23⟩) (by assumption) ?r23
     case h23 => (intro w hSw; have hSw := Has.five hSw HL.out; dsimp only at hSw; go_simp; try with_reducible rfl)
     try simp only [Act.put, List.setIfInBounds_toArray, List.set_cons_zero, List.set_cons_succ]
     refine reg_take (i := 11) (v := ?v24) rfl (by kernel_rfl) (by kernel_rfl) (by kernel_rfl) (fun _ _ _ h => h) (Or.inl ⟨by kernel_rfl, ?h24⟩) (by assumption) ?r24
     case h24 => (intro w hSw; have hSw := Has.five hSw HL.out; dsimp only at hSw; go_simp; try with_reducible rfl)
     try simp only [Act.put, List.setIfInBounds_toArray, List.set_cons_zero, List.set_cons_succ]
     refine reg_call2 (i := 12) (j := 13) (by kernel_rfl) rfl rfl (fun K hK => ?_) (fun K hK => ?_)
     · go_simp
       have u1 := (Below.refl _ wd).alloc hsd (.cells #[.int .i64 0, .int .i64 0, .string ⟨#[]⟩, .slice none 0 0] 25)
       refine hK.out _ _ ?_ (fun hHeld => ?_)
       · exact h.below u1 HLT.out
       clear hK K
       try simp only [Act.put, List.setIfInBounds_toArray, List.set_cons_zero, List.set_cons_succ]
       refine reg_call (i := 13) (by kernel_rfl) rfl (fun K hK => ?_)
       go_simp
       have u2 := u1.alloc (by simp; omega) (.cells #[.int .i64 0, .int .i64 0, .string ⟨#[]⟩, .slice none 0 0] 25)
       refine hK.out _ _ ?_ (fun hHeld => ?_)
       · exact h.below u2 HLT.out
       clear hK K
       try simp only [Act.put, List.setIfInBounds_toArray, List.set_cons_zero, List.set_cons_succ]
       have q0 : Row _ wd.heap.size 25 #[.int .i64 0, .int .i64 0, .string ⟨#[]⟩, .slice none 0 0] := (Row.new wd _ _).alloc (.cells #[.int .i64 0, .int .i64 0, .string ⟨#[]⟩, .slice none 0 0] 25)
       have q1 : Row ((wd.alloc (.cells #[.int .i64 0, .int .i64 0, .string ⟨#[]⟩, .slice none 0 0] 25)).alloc (.cells #[.int .i64 0, .int .i64 0, .string ⟨#[]⟩, .slice none 0 0] 25)) (wd.heap.size + 1) 25 #[.int .i64 0, .int .i64 0, .string ⟨#[]⟩, .slice none 0 0] := by simpa using Row.new (wd.alloc (.cells #[.int .i64 0, .int .i64 0, .string ⟨#[]⟩, .slice none 0 0] 25)) 25 #[.int .i64 0, .int .i64 0, .string ⟨#[]⟩, .slice none 0 0]
       generalize ((wd.alloc (.cells #[.int .i64 0, .int .i64 0, .string ⟨#[]⟩, .slice none 0 0] 25)).alloc (.cells #[.int .i64 0, .int .i64 0, .string ⟨#[]⟩, .slice none 0 0] 25)) = wv at u2 q0 q1 hHeld ⊢
       clear u1
       obtain ⟨m0, m1, m2, m3, n0, n1, n2, n3⟩ := cells8 q0
       refine reg_call (i := 14) (by kernel_rfl) rfl (fun K hK => ?_)
       go_simp
       have u4 := ((((u2.setCell (p := ⟨wd.heap.size, 0, none⟩) hsd (.int .i64 11)).setCell (p := ⟨wd.heap.size, 1, none⟩) hsd (.int .i64 kn)).setCell (p := ⟨wd.heap.size, 2, none⟩) hsd (.string kname)).setCell (p := ⟨wd.heap.size, 3, none⟩) hsd (.slice (some ⟨blj, 0, none⟩) 1 p3))
       refine hK.out _ _ ?_ (fun hHeld => ?_)
       · exact h.below u4 HLT.out
       clear hK K
       try simp only [Act.put, List.setIfInBounds_toArray, List.set_cons_zero, List.set_cons_succ]
       have r0 : Row _ (wd.heap.size) 25 #[.int .i64 11, .int .i64 kn, .string kname, .slice (some ⟨blj, 0, none⟩) 1 p3] := (((q0.set_ 0 (.int .i64 11)).set_ 1 (.int .i64 kn)).set_ 2 (.string kname)).set_ 3 (.slice (some ⟨blj, 0, none⟩) 1 p3)
       have hne : wd.heap.size + 1 ≠ wd.heap.size := by omega
       have r1 := ((((q1.far (p := ⟨wd.heap.size, 0, none⟩) hne (.int .i64 11)).far (p := ⟨wd.heap.size, 1, none⟩) hne (.int .i64 kn)).far (p := ⟨wd.heap.size, 2, none⟩) hne (.string kname)).far (p := ⟨wd.heap.size, 3, none⟩) hne (.slice (some ⟨blj, 0, none⟩) 1 p3))
       generalize ((((wv.setCell ⟨wd.heap.size, 0, none⟩ (.int .i64 11)).setCell ⟨wd.heap.size, 1, none⟩ (.int .i64 kn)).setCell ⟨wd.heap.size, 2, none⟩ (.string kname)).setCell ⟨wd.heap.size, 3, none⟩ (.slice (some ⟨blj, 0, none⟩) 1 p3)) = wy at u4 r0 r1 hHeld ⊢
       clear u2 m0 m1 m2 m3 n0 n1 n2 n3
       obtain ⟨m0, m1, m2, m3, n0, n1, n2, n3⟩ := cells8 r1
       refine reg_call (i := 15) (by kernel_rfl) rfl (fun K hK => ?_)
       go_simp
       have u6 := ((((u4.setCell (p := ⟨wd.heap.size + 1, 0, none⟩) (Nat.le_succ_of_le hsd) (.int .i64 11)).setCell (p := ⟨wd.heap.size + 1, 1, none⟩) (Nat.le_succ_of_le hsd) (.int .i64 kn)).setCell (p := ⟨wd.heap.size + 1, 2, none⟩) (Nat.le_succ_of_le hsd) (.string kname)).setCell (p := ⟨wd.heap.size + 1, 3, none⟩) (Nat.le_succ_of_le hsd) (.slice (some ⟨blj, 0, none⟩) 1 p3))
       refine hK.out _ _ ?_ (fun hHeld => ?_)
       · exact h.below u6 HLT.out
       clear hK K
       try simp only [Act.put, List.setIfInBounds_toArray, List.set_cons_zero, List.set_cons_succ]
       have t0 : Row _ (wd.heap.size + 1) 25 #[.int .i64 11, .int .i64 kn, .string kname, .slice (some ⟨blj, 0, none⟩) 1 p3] := (((r1.set_ 0 (.int .i64 11)).set_ 1 (.int .i64 kn)).set_ 2 (.string kname)).set_ 3 (.slice (some ⟨blj, 0, none⟩) 1 p3)
       replace hne := hne.symm
       have t1 := ((((r0.far (p := ⟨wd.heap.size + 1, 0, none⟩) hne (.int .i64 11)).far (p := ⟨wd.heap.size + 1, 1, none⟩) hne (.int .i64 kn)).far (p := ⟨wd.heap.size + 1, 2, none⟩) hne (.string kname)).far (p := ⟨wd.heap.size + 1, 3, none⟩) hne (.slice (some ⟨blj, 0, none⟩) 1 p3))
       refine wpAnyH_done (by kernel_rfl) ?_ _
       go_wp2_with fail
       go_meet
       case rel => exact ⟨_, _, rfl, rfl, t1, t0, by omega, by omega, udd.trans u6⟩
     · go_simp
       have u1 := (Below.refl _ wd).alloc hsd (.cells #[.int .i64 0, .int .i64 0, .string ⟨#[]⟩, .slice none 0 0] 25)
       refine hK.out _ _ ?_ (fun hHeld => ?_)
       · exact h.below u1 HLT.out
       clear hK K
       try simp only [Act.put, List.setIfInBounds_toArray, List.set_cons_zero, List.set_cons_succ]
       refine reg_call (i := 12) (by kernel_rfl) rfl (fun K hK => ?_)
       go_simp
       have u2 := u1.alloc (by simp; omega) (.cells #[.int .i64 0, .int .i64 0, .string ⟨#[]⟩, .slice none 0 0] 25)
       refine hK.out _ _ ?_ (fun hHeld => ?_)
       · exact h.below u2 HLT.out
       clear hK K
       try simp only [Act.put, List.setIfInBounds_toArray, List.set_cons_zero, List.set_cons_succ]
       have q0 : Row _ wd.heap.size 25 #[.int .i64 0, .int .i64 0, .string ⟨#[]⟩, .slice none 0 0] := (Row.new wd _ _).alloc (.cells #[.int .i64 0, .int .i64 0, .string ⟨#[]⟩, .slice none 0 0] 25)
       have q1 : Row ((wd.alloc (.cells #[.int .i64 0, .int .i64 0, .string ⟨#[]⟩, .slice none 0 0] 25)).alloc (.cells #[.int .i64 0, .int .i64 0, .string ⟨#[]⟩, .slice none 0 0] 25)) (wd.heap.size + 1) 25 #[.int .i64 0, .int .i64 0, .string ⟨#[]⟩, .slice none 0 0] := by simpa using Row.new (wd.alloc (.cells #[.int .i64 0, .int .i64 0, .string ⟨#[]⟩, .slice none 0 0] 25)) 25 #[.int .i64 0, .int .i64 0, .string ⟨#[]⟩, .slice none 0 0]
       generalize ((wd.alloc (.cells #[.int .i64 0, .int .i64 0, .string ⟨#[]⟩, .slice none 0 0] 25)).alloc (.cells #[.int .i64 0, .int .i64 0, .string ⟨#[]⟩, .slice none 0 0] 25)) = wv at u2 q0 q1 hHeld ⊢
       clear u1
       obtain ⟨m0, m1, m2, m3, n0, n1, n2, n3⟩ := cells8 q1
       refine reg_call (i := 14) (by kernel_rfl) rfl (fun K hK => ?_)
       go_simp
       have u4 := ((((u2.setCell (p := ⟨wd.heap.size + 1, 0, none⟩) (Nat.le_succ_of_le hsd) (.int .i64 11)).setCell (p := ⟨wd.heap.size + 1, 1, none⟩) (Nat.le_succ_of_le hsd) (.int .i64 kn)).setCell (p := ⟨wd.heap.size + 1, 2, none⟩) (Nat.le_succ_of_le hsd) (.string kname)).setCell (p := ⟨wd.heap.size + 1, 3, none⟩) (Nat.le_succ_of_le hsd) (.slice (some ⟨blj, 0, none⟩) 1 p3))
       refine hK.out _ _ ?_ (fun hHeld => ?_)
       · exact h.below u4 HLT.out
       clear hK K
       try simp only [Act.put, List.setIfInBounds_toArray, List.set_cons_zero, List.set_cons_succ]
       have r0 : Row _ (wd.heap.size + 1) 25 #[.int .i64 11, .int .i64 kn, .string kname, .slice (some ⟨blj, 0, none⟩) 1 p3] := (((q1.set_ 0 (.int .i64 11)).set_ 1 (.int .i64 kn)).set_ 2 (.string kname)).set_ 3 (.slice (some ⟨blj, 0, none⟩) 1 p3)
       have hne : wd.heap.size ≠ wd.heap.size + 1 := by omega
       have r1 := ((((q0.far (p := ⟨wd.heap.size + 1, 0, none⟩) hne (.int .i64 11)).far (p := ⟨wd.heap.size + 1, 1, none⟩) hne (.int .i64 kn)).far (p := ⟨wd.heap.size + 1, 2, none⟩) hne (.string kname)).far (p := ⟨wd.heap.size + 1, 3, none⟩) hne (.slice (some ⟨blj, 0, none⟩) 1 p3))
       generalize ((((wv.setCell ⟨wd.heap.size + 1, 0, none⟩ (.int .i64 11)).setCell ⟨wd.heap.size + 1, 1, none⟩ (.int .i64 kn)).setCell ⟨wd.heap.size + 1, 2, none⟩ (.string kname)).setCell ⟨wd.heap.size + 1, 3, none⟩ (.slice (some ⟨blj, 0, none⟩) 1 p3)) = wy at u4 r0 r1 hHeld ⊢
       clear u2 m0 m1 m2 m3 n0 n1 n2 n3
       obtain ⟨m0, m1, m2, m3, n0, n1, n2, n3⟩ := cells8 r1
       refine reg_call (i := 15) (by kernel_rfl) rfl (fun K hK => ?_)
       go_simp
       have u6 := ((((u4.setCell (p := ⟨wd.heap.size, 0, none⟩) hsd (.int .i64 11)).setCell (p := ⟨wd.heap.size, 1, none⟩) hsd (.int .i64 kn)).setCell (p := ⟨wd.heap.size, 2, none⟩) hsd (.string kname)).setCell (p := ⟨wd.heap.size, 3, none⟩) hsd (.slice (some ⟨blj, 0, none⟩) 1 p3))
       refine hK.out _ _ ?_ (fun hHeld => ?_)
       · exact h.below u6 HLT.out
       clear hK K
       try simp only [Act.put, List.setIfInBounds_toArray, List.set_cons_zero, List.set_cons_succ]
       have t0 : Row _ (wd.heap.size) 25 #[.int .i64 11, .int .i64 kn, .string kname, .slice (some ⟨blj, 0, none⟩) 1 p3] := (((r1.set_ 0 (.int .i64 11)).set_ 1 (.int .i64 kn)).set_ 2 (.string kname)).set_ 3 (.slice (some ⟨blj, 0, none⟩) 1 p3)
       replace hne := hne.symm
       have t1 := ((((r0.far (p := ⟨wd.heap.size, 0, none⟩) hne (.int .i64 11)).far (p := ⟨wd.heap.size, 1, none⟩) hne (.int .i64 kn)).far (p := ⟨wd.heap.size, 2, none⟩) hne (.string kname)).far (p := ⟨wd.heap.size, 3, none⟩) hne (.slice (some ⟨blj, 0, none⟩) 1 p3))
       refine wpAnyH_done (by kernel_rfl) ?_ _
       go_wp2_with fail
       go_meet
       case rel => exact ⟨_, _, rfl, rfl, t1, t0, by omega, by omega, udd.trans u6⟩
    case rest =>
     obtain ⟨ga, gb, rfl, rfl, RA, RB, hga, hgb, hbc⟩ := hcut
     replace hw : Below w.heap.size w wc := hw.trans (hbc.mono (by omega))
     replace RE := RE.below hbc (by omega)
     replace RR := RR.below hbc (by omega)
     clear hbc HG HL HLT g_0 k0 k1 k2 k3
     have j0 : wc.cell? ⟨blj, 0, none⟩ = some (.int .i64 jop) := (hw.cell (p := ⟨blj, 0, none⟩) (show blj < w.heap.size by omega)).trans (by simpa using i0)
     have j1 : wc.cell? ⟨blj, 1, none⟩ = some (.int .i64 jn) := (hw.cell (p := ⟨blj, 1, none⟩) (show blj < w.heap.size by omega)).trans (by simpa using i1)
     have j2 : wc.cell? ⟨blj, 2, none⟩ = some (.string jname) := (hw.cell (p := ⟨blj, 2, none⟩) (show blj < w.heap.size by omega)).trans (by simpa using i2)
     have j3 : wc.cell? ⟨blj, 3, none⟩ = some (.slice A5 jkids.length p5) := (hw.cell (p := ⟨blj, 3, none⟩) (show blj < w.heap.size by omega)).trans (by simpa using i3)
     clear i0 i1 i2 i3
     by_cases qj : jop = 11
     · subst qj
       have EQ : foldP (Ex.mk 11 n name [(Ex.mk 11 kn kname [.mk 11 jn jname jkids])]) = (Ex.mk 11 jn jname jkids) := by
         unfold foldP
         simp [Ex.op, Ex.n, Ex.kids, hd]
       replace EQ := Lib.hid EQ
       obtain ⟨s0, s1, s2, s3, f0, f1, f2, f3⟩ := cells8 RR
       obtain ⟨y0, y1, y2, y3, y4, y5, y6, y7, y8, y9, ya, yb⟩ := cells12 RE RA RB
       have F := leaf_fin hw hB (Nat.le_succ _) RR hj EQ.out
       clear EQ
       go_wp2_with fail
       refine bodyPost_ret (by simp [results, Tryd.results47, go_sem, s0, s1, s2, s3]) rfl F.out
     · have qj' : (jop == 11) = false := by simpa using qj
       have EQ : foldP (Ex.mk 11 n name [(Ex.mk 11 kn kname [.mk jop jn jname jkids])]) = (Ex.mk 11 n name [Ex.mk 11 kn kname [.mk jop jn jname jkids]]) := by
         unfold foldP
         simp [Ex.op, Ex.n, Ex.kids, hd, qj]
       replace EQ := Lib.hid EQ
       clear qj
       obtain ⟨s0, s1, s2, s3, f0, f1, f2, f3⟩ := cells8 RR
       obtain ⟨y0, y1, y2, y3, y4, y5, y6, y7, y8, y9, ya, yb⟩ := cells12 RE RA RB
       have F := leaf_fin hw hB (Nat.le_succ _) RR he EQ.out
       clear EQ
       go_wp2_with fail
       refine bodyPost_ret (by simp [results, Tryd.results47, go_sem, s0, s1, s2, s3]) rfl F.out
  have q1' : (kop == 1) = false := by simpa using q1
  have q11' : (kop == 11) = false := by simpa using q11
  have EQ : foldP (Ex.mk 11 n name [(Ex.mk kop kn kname kkids)]) = (Ex.mk 11 n name [(Ex.mk kop kn kname kkids)]) := by
    unfold foldP
    simp [Ex.op, Ex.n, Ex.kids, hd, q1, q11]
  replace EQ := Lib.hid EQ
  clear rk hl q1 q11
  obtain ⟨k0, k1, k2, k3⟩ := kids4 hw hblk c0 c1 c2 c3
  have g_0 := RE.cell 3
  obtain ⟨L, hL⟩ : ∃ L : List (Addr × Value), [(⟨w.heap.size, 3, none⟩, .slice (some ⟨blk, 0, none⟩) 1 p), (⟨blk, 0, none⟩, .int .i64 kop), (⟨blk, 1, none⟩, .int .i64 kn), (⟨blk, 2, none⟩, .string kname), (⟨blk, 3, none⟩, .slice A3 kkids.length p3)] = L := ⟨_, rfl⟩
  have HG : Hid (Has ((w.alloc (.cells #[.int .i64 11, .int .i64 n, .string name, .slice (some ⟨blk, 0, none⟩) 1 p] 25)).alloc (.cells #[.int .i64 0, .int .i64 0, .string ⟨#[]⟩, .slice none 0 0] 25)) L) := by
    subst hL
    exact .cons (RE.cell 3) (.cons k0 (.cons k1 (.cons k2 (.cons k3 .nil))))
  have HLT : Hid (∀ x ∈ L, x.1.block < w.heap.size + 2) := by
    subst hL
    exact lcons (by dsimp only; omega) (lcons (by dsimp only; omega) (lcons (by dsimp only; omega) (lcons (by dsimp only; omega) (lcons (by dsimp only; omega) (lnil)))))
  replace hL := Lib.hid hL.symm
  have HL := hL
  clear hL
  go_enter Tryd.func47, Tryd.ntmps47
  go_wp2_with fail
  go_cut [3, 4] (fun s3 s4 wx => ∃ ga gb : Nat, s3 = .pointer (some ⟨ga, 0, none⟩) ∧ s4 = .pointer (some ⟨gb, 0, none⟩) ∧ Row wx ga 25 #[.int .i64 kop, .int .i64 kn, .string kname, .slice A3 kkids.length p3] ∧ Row wx gb 25 #[.int .i64 kop, .int .i64 kn, .string kname, .slice A3 kkids.length p3] ∧ w.heap.size + 1 < ga ∧ w.heap.size + 1 < gb ∧ Below (w.heap.size + 2) ((w.alloc (.cells #[.int .i64 11, .int .i64 n, .string name, .slice (some ⟨blk, 0, none⟩) 1 p] 25)).alloc (.cells #[.int .i64 0, .int .i64 0, .string ⟨#[]⟩, .slice none 0 0] 25)) wx)
  case first =>
   refine wp_region_held_drew (S := fun w' => Has w' L) (by kernel_rfl) ?_ (fun hHeld => ?_)
   · exact HG.out
   have udd : Below (w.heap.size + 2) ((w.alloc (.cells #[.int .i64 11, .int .i64 n, .string name, .slice (some ⟨blk, 0, none⟩) 1 p] 25)).alloc (.cells #[.int .i64 0, .int .i64 0, .string ⟨#[]⟩, .slice none 0 0] 25)) ((w.alloc (.cells #[.int .i64 11, .int .i64 n, .string name, .slice (some ⟨blk, 0, none⟩) 1 p] 25)).alloc (.cells #[.int .i64 0, .int .i64 0, .string ⟨#[]⟩, .slice none 0 0] 25)).drew := (Below.refl _ _).drew
   have hsd : w.heap.size + 2 ≤ ((w.alloc (.cells #[.int .i64 11, .int .i64 n, .string name, .slice (some ⟨blk, 0, none⟩) 1 p] 25)).alloc (.cells #[.int .i64 0, .int .i64 0, .string ⟨#[]⟩, .slice none 0 0] 25)).drew.heap.size := by show _ ≤ ((w.alloc (.cells #[.int .i64 11, .int .i64 n, .string name, .slice (some ⟨blk, 0, none⟩) 1 p] 25)).alloc (.cells #[.int .i64 0, .int .i64 0, .string ⟨#[]⟩, .slice none 0 0] 25)).heap.size; simp
   have h : Has ((w.alloc (.cells #[.int .i64 11, .int .i64 n, .string name, .slice (some ⟨blk, 0, none⟩) 1 p] 25)).alloc (.cells #[.int .i64 0, .int .i64 0, .string ⟨#[]⟩, .slice none 0 0] 25)).drew L := HG.out
   generalize ((w.alloc (.cells #[.int .i64 11, .int .i64 n, .string name, .slice (some ⟨blk, 0, none⟩) 1 p] 25)).alloc (.cells #[.int .i64 0, .int .i64 0, .string ⟨#[]⟩, .slice none 0 0] 25)).drew = wd at udd hsd hHeld h ⊢
   have h9 := h.five HL.out
   dsimp only at h9
   obtain ⟨h_0, h_1, h_2, h_3, h_4⟩ := h9
   refine reg_take (i := 0) (v := ?v25) rfl (by kernel_rfl) (by kernel_rfl) (by kernel_rfl) (fun _ _ _ h => h) (Or.inl ⟨by kernel_rfl, ?h25⟩) (by assumption) ?r25
   case h25 => (intro w hSw; have hSw := Has.five hSw HL.out; dsimp only at hSw; go_simp; try with_reducible rfl)
   try simp only [Act.put, List.setIfInBounds_toArray, List.set_cons_zero, List.set_cons_succ]
   refine reg_take (i := 1) (v := ?v26) rfl (by kernel_rfl) (by kernel_rfl) (by kernel_rfl) (fun _ _ _ h => h) (Or.inl ⟨by kernel_rfl, ?h26⟩) (by assumption) ?r26
   case h26 => (intro w hSw; have hSw := Has.five hSw HL.out; dsimp only at hSw; go_simp; try with_reducible rfl)
   try simp only [Act.put, List.setIfInBounds_toArray, List.set_cons_zero, List.set_cons_succ]
   refine reg_take (i := 2) (v := ?v27) rfl (by kernel_rfl) (by kernel_rfl) (by kernel_rfl) (fun _ _ _ h => h) (Or.inl ⟨by kernel_rfl, ?h27⟩) (by assumption) ?r27
   case h27 => (intro w hSw; have hSw := Has.five hSw HL.out; dsimp only at hSw; go_simp; try with_reducible rfl)
   try simp only [Act.put, List.setIfInBounds_toArray, List.set_cons_zero, List.set_cons_succ]
   refine reg_take (i := 3) (v := ?v28) rfl (by kernel_rfl) (by kernel_rfl) (by kernel_rfl) (fun _ _ _ h => h) (Or.inl ⟨by kernel_rfl, ?h28⟩) (by assumption) ?r28
   case h28 => (intro w hSw; have hSw := Has.five hSw HL.out; dsimp only at hSw; go_simp; try with_reducible rfl)
   try simp only [Act.put, List.setIfInBounds_toArray, List.set_cons_zero, List.set_cons_succ]
   refine reg_take (i := 4) (v := ?v29) rfl (by kernel_rfl) (by kernel_rfl) (by kernel_rfl) (fun _ _ _ h => h) (Or.inl ⟨by kernel_rfl, ?h29⟩) (by assumption) ?r29
   case h29 => (intro w hSw; have hSw := Has.five hSw HL.out; dsimp only at hSw; go_simp; try with_reducible rfl)
   try simp only [Act.put, List.setIfInBounds_toArray, List.set_cons_zero, List.set_cons_succ]
   refine reg_take (i := 5) (v := ?v30) rfl (by kernel_rfl) (by kernel_rfl) (by kernel_rfl) (fun _ _ _ h => h) (Or.inl ⟨by kernel_rfl, ?h30⟩) (by assumption) ?r30
   case h30 => (intro w hSw; have hSw := Has.five hSw HL.out; dsimp only at hSw; go_simp; try with_reducible rfl)
   try simp only [Act.put, List.setIfInBounds_toArray, List.set_cons_zero, List.set_cons_succ]
   refine reg_take (i := 6) (v := ?v31) rfl (by kernel_rfl) (by kernel_rfl) (by kernel_rfl) (fun _ _ _ h => h) (Or.inl ⟨by kernel_rfl, ?h31⟩) (by assumption) ?r31
   case h31 => (intro w hSw; have hSw := Has.five hSw HL.out; dsimp only at hSw; go_simp; try with_reducible rfl)
   try simp only [Act.put, List.setIfInBounds_toArray, List.set_cons_zero, List.set_cons_succ]
   refine reg_take (i := 7) (v := ?v32) rfl (by kernel_rfl) (by kernel_rfl) (by kernel_rfl) (fun _ _ _ h => h) (Or.inl ⟨by kernel_rfl, ?h32⟩) (by assumption) ?r32
   case h32 => (intro w hSw; have hSw := Has.five hSw HL.out; dsimp only at hSw; go_simp; try with_reducible rfl)
   try simp only [Act.put, List.setIfInBounds_toArray, List.set_cons_zero, List.set_cons_succ]
   refine reg_take (i := 8) (v := ?v33) rfl (by kernel_rfl) (by kernel_rfl) (by kernel_rfl) (fun _ _ _ h => h) (Or.inl ⟨by kernel_rfl, ?h33⟩) (by assumption) ?r33
   case h33 => (intro w hSw; have hSw := Has.five hSw HL.out; dsimp only at hSw; go_simp; try with_reducible rfl)
   try simp only [Act.put, List.setIfInBounds_toArray, List.set_cons_zero, List.set_cons_succ]
   refine reg_take (i := 9) (v := .int .i64 0) rfl (by kernel_rfl) (by kernel_rfl) (by kernel_rfl) (fun _ _ _ h => h) (Or.inl ⟨by kernel_rfl, ?h34⟩) (by assumption) ?r34
   case h34 => (intro w hSw; have hSw := Has.five hSw HL.out; dsimp only at hSw; go_simp; try rfl)
   try simp only [Act.put, List.setIfInBounds_toArray, List.set_cons_zero, List.set_cons_succ]
   refine reg_take (i := 10) (v := ?v35) rfl (by kernel_rfl) (by kernel_rfl) (by kernel_rfl) (fun _ _ _ h => h) (Or.inl ⟨by kernel_rfl, ?h35⟩) (by assumption) ?r35
   case h35 => (intro w hSw; have hSw := Has.five hSw HL.out; dsimp only at hSw; go_simp; try with_reducible rfl)
   try simp only [Act.put, List.setIfInBounds_toArray, List.set_cons_zero, List.set_cons_succ]
   refine reg_take (i := 11) (v := ?v36) rfl (by kernel_rfl) (by kernel_rfl) (by kernel_rfl) (fun _ _ _ h => h) (Or.inl ⟨by kernel_rfl, ?h36⟩) (by assumption) ?r36
   case h36 => (intro w hSw; have hSw := Has.five hSw HL.out; dsimp only at hSw; go_simp; try with_reducible rfl)
   try simp only [Act.put, List.setIfInBounds_toArray, List.set_cons_zero, List.set_cons_succ]
   refine reg_call2 (i := 12) (j := 13) (by kernel_rfl) rfl rfl (fun K hK => ?_) (fun K hK => ?_)
   · go_simp
     have u1 := (Below.refl _ wd).alloc hsd (.cells #[.int .i64 0, .int .i64 0, .string ⟨#[]⟩, .slice none 0 0] 25)
     refine hK.out _ _ ?_ (fun hHeld => ?_)
     · exact h.below u1 HLT.out
     clear hK K
     try simp only [Act.put, List.setIfInBounds_toArray, List.set_cons_zero, List.set_cons_succ]
     refine reg_call (i := 13) (by kernel_rfl) rfl (fun K hK => ?_)
     go_simp
     have u2 := u1.alloc (by simp; omega) (.cells #[.int .i64 0, .int .i64 0, .string ⟨#[]⟩, .slice none 0 0] 25)
     refine hK.out _ _ ?_ (fun hHeld => ?_)
     · exact h.below u2 HLT.out
     clear hK K
     try simp only [Act.put, List.setIfInBounds_toArray, List.set_cons_zero, List.set_cons_succ]
     have q0 : Row _ wd.heap.size 25 #[.int .i64 0, .int .i64 0, .string ⟨#[]⟩, .slice none 0 0] := (Row.new wd _ _).alloc (.cells #[.int .i64 0, .int .i64 0, .string ⟨#[]⟩, .slice none 0 0] 25)
     have q1 : Row ((wd.alloc (.cells #[.int .i64 0, .int .i64 0, .string ⟨#[]⟩, .slice none 0 0] 25)).alloc (.cells #[.int .i64 0, .int .i64 0, .string ⟨#[]⟩, .slice none 0 0] 25)) (wd.heap.size + 1) 25 #[.int .i64 0, .int .i64 0, .string ⟨#[]⟩, .slice none 0 0] := by simpa using Row.new (wd.alloc (.cells #[.int .i64 0, .int .i64 0, .string ⟨#[]⟩, .slice none 0 0] 25)) 25 #[.int .i64 0, .int .i64 0, .string ⟨#[]⟩, .slice none 0 0]
     generalize ((wd.alloc (.cells #[.int .i64 0, .int .i64 0, .string ⟨#[]⟩, .slice none 0 0] 25)).alloc (.cells #[.int .i64 0, .int .i64 0, .string ⟨#[]⟩, .slice none 0 0] 25)) = wv at u2 q0 q1 hHeld ⊢
     clear u1
     obtain ⟨m0, m1, m2, m3, n0, n1, n2, n3⟩ := cells8 q0
     refine reg_call (i := 14) (by kernel_rfl) rfl (fun K hK => ?_)
     go_simp
     have u4 := ((((u2.setCell (p := ⟨wd.heap.size, 0, none⟩) hsd (.int .i64 kop)).setCell (p := ⟨wd.heap.size, 1, none⟩) hsd (.int .i64 kn)).setCell (p := ⟨wd.heap.size, 2, none⟩) hsd (.string kname)).setCell (p := ⟨wd.heap.size, 3, none⟩) hsd (.slice A3 kkids.length p3))
     refine hK.out _ _ ?_ (fun hHeld => ?_)
     · exact h.below u4 HLT.out
     clear hK K
     try simp only [Act.put, List.setIfInBounds_toArray, List.set_cons_zero, List.set_cons_succ]
     have r0 : Row _ (wd.heap.size) 25 #[.int .i64 kop, .int .i64 kn, .string kname, .slice A3 kkids.length p3] := (((q0.set_ 0 (.int .i64 kop)).set_ 1 (.int .i64 kn)).set_ 2 (.string kname)).set_ 3 (.slice A3 kkids.length p3)
     have hne : wd.heap.size + 1 ≠ wd.heap.size := by omega
     have r1 := ((((q1.far (p := ⟨wd.heap.size, 0, none⟩) hne (.int .i64 kop)).far (p := ⟨wd.heap.size, 1, none⟩) hne (.int .i64 kn)).far (p := ⟨wd.heap.size, 2, none⟩) hne (.string kname)).far (p := ⟨wd.heap.size, 3, none⟩) hne (.slice A3 kkids.length p3))
     generalize ((((wv.setCell ⟨wd.heap.size, 0, none⟩ (.int .i64 kop)).setCell ⟨wd.heap.size, 1, none⟩ (.int .i64 kn)).setCell ⟨wd.heap.size, 2, none⟩ (.string kname)).setCell ⟨wd.heap.size, 3, none⟩ (.slice A3 kkids.length p3)) = wy at u4 r0 r1 hHeld ⊢
     clear u2 m0 m1 m2 m3 n0 n1 n2 n3
     obtain ⟨m0, m1, m2, m3, n0, n1, n2, n3⟩ := cells8 r1
     refine reg_call (i := 15) (by kernel_rfl) rfl (fun K hK => ?_)
     go_simp
     have u6 := ((((u4.setCell (p := ⟨wd.heap.size + 1, 0, none⟩) (Nat.le_succ_of_le hsd) (.int .i64 kop)).setCell (p := ⟨wd.heap.size + 1, 1, none⟩) (Nat.le_succ_of_le hsd) (.int .i64 kn)).setCell (p := ⟨wd.heap.size + 1, 2, none⟩) (Nat.le_succ_of_le hsd) (.string kname)).setCell (p := ⟨wd.heap.size + 1, 3, none⟩) (Nat.le_succ_of_le hsd) (.slice A3 kkids.length p3))
     refine hK.out _ _ ?_ (fun hHeld => ?_)
     · exact h.below u6 HLT.out
     clear hK K
     try simp only [Act.put, List.setIfInBounds_toArray, List.set_cons_zero, List.set_cons_succ]
     have t0 : Row _ (wd.heap.size + 1) 25 #[.int .i64 kop, .int .i64 kn, .string kname, .slice A3 kkids.length p3] := (((r1.set_ 0 (.int .i64 kop)).set_ 1 (.int .i64 kn)).set_ 2 (.string kname)).set_ 3 (.slice A3 kkids.length p3)
     replace hne := hne.symm
     have t1 := ((((r0.far (p := ⟨wd.heap.size + 1, 0, none⟩) hne (.int .i64 kop)).far (p := ⟨wd.heap.size + 1, 1, none⟩) hne (.int .i64 kn)).far (p := ⟨wd.heap.size + 1, 2, none⟩) hne (.string kname)).far (p := ⟨wd.heap.size + 1, 3, none⟩) hne (.slice A3 kkids.length p3))
     refine wpAnyH_done (by kernel_rfl) ?_ _
     go_wp2_with fail
     go_meet
     case rel => exact ⟨_, _, rfl, rfl, t1, t0, by omega, by omega, udd.trans u6⟩
   · go_simp
     have u1 := (Below.refl _ wd).alloc hsd (.cells #[.int .i64 0, .int .i64 0, .string ⟨#[]⟩, .slice none 0 0] 25)
     refine hK.out _ _ ?_ (fun hHeld => ?_)
     · exact h.below u1 HLT.out
     clear hK K
     try simp only [Act.put, List.setIfInBounds_toArray, List.set_cons_zero, List.set_cons_succ]
     refine reg_call (i := 12) (by kernel_rfl) rfl (fun K hK => ?_)
     go_simp
     have u2 := u1.alloc (by simp; omega) (.cells #[.int .i64 0, .int .i64 0, .string ⟨#[]⟩, .slice none 0 0] 25)
     refine hK.out _ _ ?_ (fun hHeld => ?_)
     · exact h.below u2 HLT.out
     clear hK K
     try simp only [Act.put, List.setIfInBounds_toArray, List.set_cons_zero, List.set_cons_succ]
     have q0 : Row _ wd.heap.size 25 #[.int .i64 0, .int .i64 0, .string ⟨#[]⟩, .slice none 0 0] := (Row.new wd _ _).alloc (.cells #[.int .i64 0, .int .i64 0, .string ⟨#[]⟩, .slice none 0 0] 25)
     have q1 : Row ((wd.alloc (.cells #[.int .i64 0, .int .i64 0, .string ⟨#[]⟩, .slice none 0 0] 25)).alloc (.cells #[.int .i64 0, .int .i64 0, .string ⟨#[]⟩, .slice none 0 0] 25)) (wd.heap.size + 1) 25 #[.int .i64 0, .int .i64 0, .string ⟨#[]⟩, .slice none 0 0] := by simpa using Row.new (wd.alloc (.cells #[.int .i64 0, .int .i64 0, .string ⟨#[]⟩, .slice none 0 0] 25)) 25 #[.int .i64 0, .int .i64 0, .string ⟨#[]⟩, .slice none 0 0]
     generalize ((wd.alloc (.cells #[.int .i64 0, .int .i64 0, .string ⟨#[]⟩, .slice none 0 0] 25)).alloc (.cells #[.int .i64 0, .int .i64 0, .string ⟨#[]⟩, .slice none 0 0] 25)) = wv at u2 q0 q1 hHeld ⊢
     clear u1
     obtain ⟨m0, m1, m2, m3, n0, n1, n2, n3⟩ := cells8 q1
     refine reg_call (i := 14) (by kernel_rfl) rfl (fun K hK => ?_)
     go_simp
     have u4 := ((((u2.setCell (p := ⟨wd.heap.size + 1, 0, none⟩) (Nat.le_succ_of_le hsd) (.int .i64 kop)).setCell (p := ⟨wd.heap.size + 1, 1, none⟩) (Nat.le_succ_of_le hsd) (.int .i64 kn)).setCell (p := ⟨wd.heap.size + 1, 2, none⟩) (Nat.le_succ_of_le hsd) (.string kname)).setCell (p := ⟨wd.heap.size + 1, 3, none⟩) (Nat.le_succ_of_le hsd) (.slice A3 kkids.length p3))
     refine hK.out _ _ ?_ (fun hHeld => ?_)
     · exact h.below u4 HLT.out
     clear hK K
     try simp only [Act.put, List.setIfInBounds_toArray, List.set_cons_zero, List.set_cons_succ]
     have r0 : Row _ (wd.heap.size + 1) 25 #[.int .i64 kop, .int .i64 kn, .string kname, .slice A3 kkids.length p3] := (((q1.set_ 0 (.int .i64 kop)).set_ 1 (.int .i64 kn)).set_ 2 (.string kname)).set_ 3 (.slice A3 kkids.length p3)
     have hne : wd.heap.size ≠ wd.heap.size + 1 := by omega
     have r1 := ((((q0.far (p := ⟨wd.heap.size + 1, 0, none⟩) hne (.int .i64 kop)).far (p := ⟨wd.heap.size + 1, 1, none⟩) hne (.int .i64 kn)).far (p := ⟨wd.heap.size + 1, 2, none⟩) hne (.string kname)).far (p := ⟨wd.heap.size + 1, 3, none⟩) hne (.slice A3 kkids.length p3))
     generalize ((((wv.setCell ⟨wd.heap.size + 1, 0, none⟩ (.int .i64 kop)).setCell ⟨wd.heap.size + 1, 1, none⟩ (.int .i64 kn)).setCell ⟨wd.heap.size + 1, 2, none⟩ (.string kname)).setCell ⟨wd.heap.size + 1, 3, none⟩ (.slice A3 kkids.length p3)) = wy at u4 r0 r1 hHeld ⊢
     clear u2 m0 m1 m2 m3 n0 n1 n2 n3
     obtain ⟨m0, m1, m2, m3, n0, n1, n2, n3⟩ := cells8 r1
     refine reg_call (i := 15) (by kernel_rfl) rfl (fun K hK => ?_)
     go_simp
     have u6 := ((((u4.setCell (p := ⟨wd.heap.size, 0, none⟩) hsd (.int .i64 kop)).setCell (p := ⟨wd.heap.size, 1, none⟩) hsd (.int .i64 kn)).setCell (p := ⟨wd.heap.size, 2, none⟩) hsd (.string kname)).setCell (p := ⟨wd.heap.size, 3, none⟩) hsd (.slice A3 kkids.length p3))
     refine hK.out _ _ ?_ (fun hHeld => ?_)
     · exact h.below u6 HLT.out
     clear hK K
     try simp only [Act.put, List.setIfInBounds_toArray, List.set_cons_zero, List.set_cons_succ]
     have t0 : Row _ (wd.heap.size) 25 #[.int .i64 kop, .int .i64 kn, .string kname, .slice A3 kkids.length p3] := (((r1.set_ 0 (.int .i64 kop)).set_ 1 (.int .i64 kn)).set_ 2 (.string kname)).set_ 3 (.slice A3 kkids.length p3)
     replace hne := hne.symm
     have t1 := ((((r0.far (p := ⟨wd.heap.size, 0, none⟩) hne (.int .i64 kop)).far (p := ⟨wd.heap.size, 1, none⟩) hne (.int .i64 kn)).far (p := ⟨wd.heap.size, 2, none⟩) hne (.string kname)).far (p := ⟨wd.heap.size, 3, none⟩) hne (.slice A3 kkids.length p3))
     refine wpAnyH_done (by kernel_rfl) ?_ _
     go_wp2_with fail
     go_meet
     case rel => exact ⟨_, _, rfl, rfl, t1, t0, by omega, by omega, udd.trans u6⟩
  case rest =>
   obtain ⟨ga, gb, rfl, rfl, RA, RB, hga, hgb, hbc⟩ := hcut
   replace hw : Below w.heap.size w wc := hw.trans (hbc.mono (by omega))
   replace RE := RE.below hbc (by omega)
   replace RR := RR.below hbc (by omega)
   clear hbc HG HL HLT g_0 k0 k1 k2 k3
   obtain ⟨s0, s1, s2, s3, f0, f1, f2, f3⟩ := cells8 RR
   obtain ⟨y0, y1, y2, y3, y4, y5, y6, y7, y8, y9, ya, yb⟩ := cells12 RE RA RB
   have F := leaf_fin hw hB (Nat.le_succ _) RR he EQ.out
   clear EQ
   go_wp2_with fail
   refine bodyPost_ret (by simp [results, Tryd.results47, go_sem, s0, s1, s2, s3]) rfl F.out
set_option maxRecDepth 100000 in
set_option maxHeartbeats 4000000 in
/-- a part that has no Kids, and a call, and an @ stay -/
theorem impl_foldPart_out (D : Nat) (op n : Int) (name : ByteArray) (kids : List Ex) (A : Option Addr) (p : Nat) (w : World) (lo B : Nat) (hB : B ≤ w.heap.size) (ho : I64 op) (hn : I64 n) (hnm : name.size ≤ maxLen) (h3 : ∀ m, SlT m (exT m D) w lo B kids (.slice A kids.length p)) (hop : kids.length = 0 ∨ op = 12 ∨ op = 13) :
    Calls Tryd.prog 47 #[.agg #[.int .i64 op, .int .i64 n, .string name, .slice A kids.length p]] w (FoldRP D (.mk op n name kids) lo B w) := by
  have hy : ∀ m, (exT m (D + 1)).rep w lo B (.mk op n name kids) [.int .i64 op, .int .i64 n, .string name, .slice A kids.length p] := fun m => exT_mk m D op n name kids _ ho hn hnm (h3 m)
  by_cases h0 : kids.length = 0
  · have ql : ((kids.length : Int) == 0) = true := by rw [h0]; rfl
    replace h0 := Lib.hid h0
    clear hop
    go_enter Tryd.func47, Tryd.ntmps47
    go_wp2_with fail
    refine bodyPost_ret (v := .agg #[.int .i64 op, .int .i64 n, .string name, .slice A kids.length p]) (by simp [results, Tryd.results47, go_sem]) rfl ?_
    exact fold_end (y := .mk op n name kids) (((Below.refl _ _).alloc (Nat.le_refl _) _).alloc (by simp) _) hB hy
  have ql : ((kids.length : Int) == 0) = false := beq_eq_false_iff_ne.2 (by omega)
  by_cases h13 : op = 13
  · subst h13
    clear hop h0
    go_enter Tryd.func47, Tryd.ntmps47
    go_wp2_with fail
    refine bodyPost_ret (v := .agg #[.int .i64 13, .int .i64 n, .string name, .slice A kids.length p]) (by simp [results, Tryd.results47, go_sem]) rfl ?_
    exact fold_end (y := .mk 13 n name kids) (((Below.refl _ _).alloc (Nat.le_refl _) _).alloc (by simp) _) hB hy
  have h12 : op = 12 := by omega
  subst h12
  clear hop h0 h13
  go_enter Tryd.func47, Tryd.ntmps47
  go_wp2_with fail
  refine bodyPost_ret (v := .agg #[.int .i64 12, .int .i64 n, .string name, .slice A kids.length p]) (by simp [results, Tryd.results47, go_sem]) rfl ?_
  exact fold_end (y := .mk 12 n name kids) (((Below.refl _ _).alloc (Nat.le_refl _) _).alloc (by simp) _) hB hy
end Go.Proofs.YthfinoapfbhgcaaDoor

