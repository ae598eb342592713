/-
  Several texts in one: FoldI3, FoldI4, FoldI5, FoldI6, FoldI7.
-/
import Derived.Test.YthfinoapfbhgcaaDoorFoldZ
import Derived.Test.YthfinoapfbhgcaaDoorReg2
import Derived.Deep.DeepCutAuto
namespace Go.Proofs.YthfinoapfbhgcaaDoor
open Go.RowKit Go.ChangeShapes Go.WideShapes Go.Deep
set_option linter.unusedVariables false
set_option linter.unusedSimpArgs false
set_option maxRecDepth 100000 in
set_option maxHeartbeats 16000000 in
theorem impl_foldPart_3 (d : Nat) (n : Int) (name : ByteArray) (aop an : Int) (aname : ByteArray) (akids : List Ex) (bop bn : Int) (bname : ByteArray) (bkids : List Ex) (A : Option Addr) (p : Nat) (w : World) (lo B : Nat) (hB : B ≤ w.heap.size) (hn : I64 n) (hnm : name.size ≤ maxLen)
    (h3 : ∀ m, SlT m (exT m (d + 1)) w lo B [.mk aop an aname akids, .mk bop bn bname bkids] (.slice A 2 p)) (ra : aop = 1 → 0 ≤ an ∧ an ≤ 255) (rb : bop = 1 → 0 ≤ bn ∧ bn ≤ 255) (fa : formB 6 (.mk aop an aname akids) = true) (fb : formB 6 (.mk bop bn bname bkids) = true) (va : valE (.mk aop an aname akids) = true) (vb : valE (.mk bop bn bname bkids) = true) (ht : Tabs w) :
    Calls Tryd.prog 47 #[.agg #[.int .i64 3, .int .i64 n, .string name, .slice A 2 p]] w (FoldRP (d + 1) (foldTwo 3 (Ex.mk aop an aname akids) (Ex.mk bop bn bname bkids) (Ex.mk 3 n name [(Ex.mk aop an aname akids), (Ex.mk bop bn bname bkids)])) lo B w) := by
  obtain ⟨blk, op1, n1, nm1, k1, A3, p3, rfl, hlb, hbB, HL1, oa, na, sa, ha', c0, c1, c2, c3⟩ := exT_get d h3 (show 0 < 2 by omega)
  have e1 := HL1.out
  injection e1 with e1 e2 e3 e4
  subst e1 e2 e3 e4
  obtain ⟨blk', op2, n2, nm2, k2, A4, p4, hA, _, _, HL2, ob, nb, sb, hb', c4, c5, c6, c7⟩ := exT_get d h3 (show 1 < 2 by omega)
  injection hA with hA
  injection hA with hA
  subst hA
  have e1 := HL2.out
  injection e1 with e1 e2 e3 e4
  subst e1 e2 e3 e4
  have he : ∀ m, (exT m (d + 1 + 1)).rep w lo B (Ex.mk 3 n name [(Ex.mk aop an aname akids), (Ex.mk bop bn bname bkids)]) [.int .i64 3, .int .i64 n, .string name, .slice (some ⟨blk, 0, none⟩) 2 p] := fun m => exT_mk m (d + 1) 3 n name _ _ ⟨by omega, by omega⟩ hn hnm (h3 m)
  have ha : ∀ m, (exT m (d + 1 + 1)).rep w lo B (Ex.mk aop an aname akids) [.int .i64 aop, .int .i64 an, .string aname, .slice A3 akids.length p3] := fun m => exT_le m (Nat.le_succ _) (ha' m)
  have hb : ∀ m, (exT m (d + 1 + 1)).rep w lo B (Ex.mk bop bn bname bkids) [.int .i64 bop, .int .i64 bn, .string bname, .slice A4 bkids.length p4] := fun m => exT_le m (Nat.le_succ _) (hb' m)
  have ska : Sl false (exS false d) w lo B akids (.slice A3 akids.length p3) := (exT_kids d (ha' false)).exS
  have skb : Sl false (exS false d) w lo B bkids (.slice A4 bkids.length p4) := (exT_kids d (hb' false)).exS
  have h3s : Sl false (exS false (d + 1)) w lo B [(Ex.mk aop an aname akids), (Ex.mk bop bn bname bkids)] (.slice (some ⟨blk, 0, none⟩) 2 p) := (h3 false).exS
  clear ha' hb' h3 HL1 HL2
  obtain ⟨T, hTT⟩ : ∃ T, foldTwo 3 (Ex.mk aop an aname akids) (Ex.mk bop bn bname bkids) (Ex.mk 3 n name [(Ex.mk aop an aname akids), (Ex.mk bop bn bname bkids)]) = T := ⟨_, rfl⟩
  rw [hTT]
  have HTT := Lib.hid hTT
  clear hTT
  have hblk : blk < w.heap.size := by omega
  obtain ⟨vA0, hvA0⟩ : ∃ v, isN (Ex.mk aop an aname akids) 0 = v := ⟨_, rfl⟩
  obtain ⟨vA1, hvA1⟩ : ∃ v, isN (Ex.mk aop an aname akids) 1 = v := ⟨_, rfl⟩
  obtain ⟨vB0, hvB0⟩ : ∃ v, isN (Ex.mk bop bn bname bkids) 0 = v := ⟨_, rfl⟩
  obtain ⟨vB1, hvB1⟩ : ∃ v, isN (Ex.mk bop bn bname bkids) 1 = v := ⟨_, rfl⟩
  obtain ⟨vSA, hvSA⟩ : ∃ v, safeE 6 (Ex.mk aop an aname akids) = v := ⟨_, rfl⟩
  obtain ⟨vSB, hvSB⟩ : ∃ v, safeE 6 (Ex.mk bop bn bname bkids) = v := ⟨_, rfl⟩
  have HA0 := Lib.hid hvA0
  have HA1 := Lib.hid hvA1
  have HB0 := Lib.hid hvB0
  have HB1 := Lib.hid hvB1
  have HSA := Lib.hid hvSA
  have HSB := Lib.hid hvSB
  clear hvA0 hvA1 hvB0 hvB1 hvSA hvSB

  have HT := Lib.hid (fun (w9 : World) (h9 : Below w.heap.size w w9) => ht.below h9 (Nat.le_refl _))
  clear ht
  have HBSA : Hid (safB (Ex.mk aop an aname akids) = vSA) := by show _ = _; unfold safB; rw [va, HSA.out]; rfl
  have HBSB : Hid (safB (Ex.mk bop bn bname bkids) = vSB) := by show _ = _; unfold safB; rw [vb, HSB.out]; rfl
  replace va := Lib.hid va
  replace vb := Lib.hid vb
  clear fa fb
  have hw : Below w.heap.size w ((w.alloc (.cells #[.int .i64 3, .int .i64 n, .string name, .slice (some ⟨blk, 0, none⟩) 2 p] 25)).alloc (.cells #[.int .i64 0, .int .i64 0, .string ⟨#[]⟩, .slice none 0 0] 25)) := ((Below.refl _ _).alloc (Nat.le_refl _) _).alloc (by simp) _
  have RE : Row _ w.heap.size 25 #[.int .i64 3, .int .i64 n, .string name, .slice (some ⟨blk, 0, none⟩) 2 p] := (Row.new w _ _).alloc (.cells #[.int .i64 0, .int .i64 0, .string ⟨#[]⟩, .slice none 0 0] 25)
  have RR : Row ((w.alloc (.cells #[.int .i64 3, .int .i64 n, .string name, .slice (some ⟨blk, 0, none⟩) 2 p] 25)).alloc (.cells #[.int .i64 0, .int .i64 0, .string ⟨#[]⟩, .slice none 0 0] 25)) (w.heap.size + 1) 25 #[.int .i64 0, .int .i64 0, .string ⟨#[]⟩, .slice none 0 0] := by simpa using Row.new (w.alloc (.cells #[.int .i64 3, .int .i64 n, .string name, .slice (some ⟨blk, 0, none⟩) 2 p] 25)) 25 #[.int .i64 0, .int .i64 0, .string ⟨#[]⟩, .slice none 0 0]
  obtain ⟨k0, k1, k2, k3, k4, k5, k6, k7⟩ := kids8 hw hblk c0 c1 c2 c3 c4 c5 c6 c7
  have g_0 := RE.cell 3
  obtain ⟨L, hL⟩ : ∃ L : List (Addr × Value), [(⟨w.heap.size, 3, none⟩, .slice (some ⟨blk, 0, none⟩) 2 p), (⟨blk, 0, none⟩, .int .i64 aop), (⟨blk, 1, none⟩, .int .i64 an), (⟨blk, 2, none⟩, .string aname), (⟨blk, 3, none⟩, .slice A3 akids.length p3), (⟨blk, 4, none⟩, .int .i64 bop), (⟨blk, 5, none⟩, .int .i64 bn), (⟨blk, 6, none⟩, .string bname), (⟨blk, 7, none⟩, .slice A4 bkids.length p4)] = L := ⟨_, rfl⟩
  have HG : Hid (Has ((w.alloc (.cells #[.int .i64 3, .int .i64 n, .string name, .slice (some ⟨blk, 0, none⟩) 2 p] 25)).alloc (.cells #[.int .i64 0, .int .i64 0, .string ⟨#[]⟩, .slice none 0 0] 25)) L) := by
    subst hL
    exact .cons (RE.cell 3) (.cons k0 (.cons k1 (.cons k2 (.cons k3 (.cons k4 (.cons k5 (.cons k6 (.cons k7 .nil))))))))
  have HLT : Hid (∀ x ∈ L, x.1.block < w.heap.size + 2) := by
    subst hL
    exact lcons (by dsimp only; omega) (lcons (by dsimp only; omega) (lcons (by dsimp only; omega) (lcons (by dsimp only; omega) (lcons (by dsimp only; omega) (lcons (by dsimp only; omega) (lcons (by dsimp only; omega) (lcons (by dsimp only; omega) (lcons (by dsimp only; omega) (lnil)))))))))
  replace hL := Lib.hid hL.symm
  have HL := hL
  clear hL
  clear c0 c1 c2 c3 c4 c5 c6 c7
  go_enter Tryd.func47, Tryd.ntmps47
  go_wp2_with fail
  go_cut [3, 4] (fun s3 s4 wx => ∃ ga gb : Nat, s3 = .pointer (some ⟨ga, 0, none⟩) ∧ s4 = .pointer (some ⟨gb, 0, none⟩) ∧ Row wx ga 25 #[.int .i64 aop, .int .i64 an, .string aname, .slice A3 akids.length p3] ∧ Row wx gb 25 #[.int .i64 bop, .int .i64 bn, .string bname, .slice A4 bkids.length p4] ∧ w.heap.size + 1 < ga ∧ w.heap.size + 1 < gb ∧ Below (w.heap.size + 2) ((w.alloc (.cells #[.int .i64 3, .int .i64 n, .string name, .slice (some ⟨blk, 0, none⟩) 2 p] 25)).alloc (.cells #[.int .i64 0, .int .i64 0, .string ⟨#[]⟩, .slice none 0 0] 25)) wx)
  case first =>
   refine wp_region_held_drew (S := fun w' => Has w' L) (by kernel_rfl) ?_ (fun hHeld => ?_)
   · exact HG.out
   have udd : Below (w.heap.size + 2) ((w.alloc (.cells #[.int .i64 3, .int .i64 n, .string name, .slice (some ⟨blk, 0, none⟩) 2 p] 25)).alloc (.cells #[.int .i64 0, .int .i64 0, .string ⟨#[]⟩, .slice none 0 0] 25)) ((w.alloc (.cells #[.int .i64 3, .int .i64 n, .string name, .slice (some ⟨blk, 0, none⟩) 2 p] 25)).alloc (.cells #[.int .i64 0, .int .i64 0, .string ⟨#[]⟩, .slice none 0 0] 25)).drew := (Below.refl _ _).drew
   have hsd : w.heap.size + 2 ≤ ((w.alloc (.cells #[.int .i64 3, .int .i64 n, .string name, .slice (some ⟨blk, 0, none⟩) 2 p] 25)).alloc (.cells #[.int .i64 0, .int .i64 0, .string ⟨#[]⟩, .slice none 0 0] 25)).drew.heap.size := by show _ ≤ ((w.alloc (.cells #[.int .i64 3, .int .i64 n, .string name, .slice (some ⟨blk, 0, none⟩) 2 p] 25)).alloc (.cells #[.int .i64 0, .int .i64 0, .string ⟨#[]⟩, .slice none 0 0] 25)).heap.size; simp
   have h : Has ((w.alloc (.cells #[.int .i64 3, .int .i64 n, .string name, .slice (some ⟨blk, 0, none⟩) 2 p] 25)).alloc (.cells #[.int .i64 0, .int .i64 0, .string ⟨#[]⟩, .slice none 0 0] 25)).drew L := HG.out
   generalize ((w.alloc (.cells #[.int .i64 3, .int .i64 n, .string name, .slice (some ⟨blk, 0, none⟩) 2 p] 25)).alloc (.cells #[.int .i64 0, .int .i64 0, .string ⟨#[]⟩, .slice none 0 0] 25)).drew = wd at udd hsd hHeld h ⊢
   have h9 := h.nine HL.out
   dsimp only at h9
   obtain ⟨h_0, h_1, h_2, h_3, h_4, h_5, h_6, h_7, h_8⟩ := h9
   refine reg_take (i := 0) (v := ?v1) rfl (by kernel_rfl) (by kernel_rfl) (by kernel_rfl) (fun _ _ _ h => h) (Or.inl ⟨by kernel_rfl, ?h1⟩) (by assumption) ?r1
   case h1 => (intro w hSw; have hSw := Has.nine hSw HL.out; dsimp only at hSw; go_simp; try with_reducible rfl)
   try simp only [Act.put, List.setIfInBounds_toArray, List.set_cons_zero, List.set_cons_succ]
   refine reg_take (i := 1) (v := ?v2) rfl (by kernel_rfl) (by kernel_rfl) (by kernel_rfl) (fun _ _ _ h => h) (Or.inl ⟨by kernel_rfl, ?h2⟩) (by assumption) ?r2
   case h2 => (intro w hSw; have hSw := Has.nine hSw HL.out; dsimp only at hSw; go_simp; try with_reducible rfl)
   try simp only [Act.put, List.setIfInBounds_toArray, List.set_cons_zero, List.set_cons_succ]
   refine reg_take (i := 2) (v := ?v3) rfl (by kernel_rfl) (by kernel_rfl) (by kernel_rfl) (fun _ _ _ h => h) (Or.inl ⟨by kernel_rfl, ?h3⟩) (by assumption) ?r3
   case h3 => (intro w hSw; have hSw := Has.nine hSw HL.out; dsimp only at hSw; go_simp; try with_reducible rfl)
   try simp only [Act.put, List.setIfInBounds_toArray, List.set_cons_zero, List.set_cons_succ]
   refine reg_take (i := 3) (v := ?v4) rfl (by kernel_rfl) (by kernel_rfl) (by kernel_rfl) (fun _ _ _ h => h) (Or.inl ⟨by kernel_rfl, ?h4⟩) (by assumption) ?r4
   case h4 => (intro w hSw; have hSw := Has.nine hSw HL.out; dsimp only at hSw; go_simp; try with_reducible rfl)
   try simp only [Act.put, List.setIfInBounds_toArray, List.set_cons_zero, List.set_cons_succ]
   refine reg_take (i := 4) (v := ?v5) rfl (by kernel_rfl) (by kernel_rfl) (by kernel_rfl) (fun _ _ _ h => h) (Or.inl ⟨by kernel_rfl, ?h5⟩) (by assumption) ?r5
   case h5 => (intro w hSw; have hSw := Has.nine hSw HL.out; dsimp only at hSw; go_simp; try with_reducible rfl)
   try simp only [Act.put, List.setIfInBounds_toArray, List.set_cons_zero, List.set_cons_succ]
   refine reg_take (i := 5) (v := ?v6) rfl (by kernel_rfl) (by kernel_rfl) (by kernel_rfl) (fun _ _ _ h => h) (Or.inl ⟨by kernel_rfl, ?h6⟩) (by assumption) ?r6
   case h6 => (intro w hSw; have hSw := Has.nine hSw HL.out; dsimp only at hSw; go_simp; try with_reducible rfl)
   try simp only [Act.put, List.setIfInBounds_toArray, List.set_cons_zero, List.set_cons_succ]
   refine reg_take (i := 6) (v := ?v7) rfl (by kernel_rfl) (by kernel_rfl) (by kernel_rfl) (fun _ _ _ h => h) (Or.inl ⟨by kernel_rfl, ?h7⟩) (by assumption) ?r7
   case h7 => (intro w hSw; have hSw := Has.nine hSw HL.out; dsimp only at hSw; go_simp; try with_reducible rfl)
   try simp only [Act.put, List.setIfInBounds_toArray, List.set_cons_zero, List.set_cons_succ]
   refine reg_take (i := 7) (v := ?v8) rfl (by kernel_rfl) (by kernel_rfl) (by kernel_rfl) (fun _ _ _ h => h) (Or.inl ⟨by kernel_rfl, ?h8⟩) (by assumption) ?r8
   case h8 => (intro w hSw; have hSw := Has.nine hSw HL.out; dsimp only at hSw; go_simp; try with_reducible rfl)
   try simp only [Act.put, List.setIfInBounds_toArray, List.set_cons_zero, List.set_cons_succ]
   refine reg_take (i := 8) (v := ?v9) rfl (by kernel_rfl) (by kernel_rfl) (by kernel_rfl) (fun _ _ _ h => h) (Or.inl ⟨by kernel_rfl, ?h9⟩) (by assumption) ?r9
   case h9 => (intro w hSw; have hSw := Has.nine hSw HL.out; dsimp only at hSw; go_simp; try with_reducible rfl)
   try simp only [Act.put, List.setIfInBounds_toArray, List.set_cons_zero, List.set_cons_succ]
   refine reg_take (i := 9) (v := .int .i64 1) rfl (by kernel_rfl) (by kernel_rfl) (by kernel_rfl) (fun _ _ _ h => h) (Or.inl ⟨by kernel_rfl, ?h10⟩) (by assumption) ?r10
   case h10 => (intro w hSw; have hSw := Has.nine hSw HL.out; dsimp only at hSw; go_simp; try rfl)
   try simp only [Act.put, List.setIfInBounds_toArray, List.set_cons_zero, List.set_cons_succ]
   refine reg_take (i := 10) (v := ?v11) rfl (by kernel_rfl) (by kernel_rfl) (by kernel_rfl) (fun _ _ _ h => h) (Or.inl ⟨by kernel_rfl, ?h11⟩) (by assumption) ?r11
   case h11 => (intro w hSw; have hSw := Has.nine hSw HL.out; dsimp only at hSw; go_simp; try with_reducible rfl)
   try simp only [Act.put, List.setIfInBounds_toArray, List.set_cons_zero, List.set_cons_succ]
   refine reg_take (i := 11) (v := ?v12) rfl (by kernel_rfl) (by kernel_rfl) (by kernel_rfl) (fun _ _ _ h => h) (Or.inl ⟨by kernel_rfl, ?h12⟩) (by assumption) ?r12
   case h12 => (intro w hSw; have hSw := Has.nine hSw HL.out; dsimp only at hSw; go_simp; try with_reducible rfl)
   try simp only [Act.put, List.setIfInBounds_toArray, List.set_cons_zero, List.set_cons_succ]
   refine reg_call2 (i := 12) (j := 13) (by kernel_rfl) rfl rfl (fun K hK => ?_) (fun K hK => ?_)
   · go_simp
     have u1 := (Below.refl _ wd).alloc hsd (.cells #[.int .i64 0, .int .i64 0, .string ⟨#[]⟩, .slice none 0 0] 25)
     refine hK.out _ _ ?_ (fun hHeld => ?_)
     · exact h.below u1 HLT.out
     clear hK K
     try simp only [Act.put, List.setIfInBounds_toArray, List.set_cons_zero, List.set_cons_succ]
     refine reg_call (i := 13) (by kernel_rfl) rfl (fun K hK => ?_)
     go_simp
     have u2 := u1.alloc (by simp; omega) (.cells #[.int .i64 0, .int .i64 0, .string ⟨#[]⟩, .slice none 0 0] 25)
     refine hK.out _ _ ?_ (fun hHeld => ?_)
     · exact h.below u2 HLT.out
     clear hK K
     try simp only [Act.put, List.setIfInBounds_toArray, List.set_cons_zero, List.set_cons_succ]
     have q0 : Row _ wd.heap.size 25 #[.int .i64 0, .int .i64 0, .string ⟨#[]⟩, .slice none 0 0] := (Row.new wd _ _).alloc (.cells #[.int .i64 0, .int .i64 0, .string ⟨#[]⟩, .slice none 0 0] 25)
     have q1 : Row ((wd.alloc (.cells #[.int .i64 0, .int .i64 0, .string ⟨#[]⟩, .slice none 0 0] 25)).alloc (.cells #[.int .i64 0, .int .i64 0, .string ⟨#[]⟩, .slice none 0 0] 25)) (wd.heap.size + 1) 25 #[.int .i64 0, .int .i64 0, .string ⟨#[]⟩, .slice none 0 0] := by simpa using Row.new (wd.alloc (.cells #[.int .i64 0, .int .i64 0, .string ⟨#[]⟩, .slice none 0 0] 25)) 25 #[.int .i64 0, .int .i64 0, .string ⟨#[]⟩, .slice none 0 0]
     generalize ((wd.alloc (.cells #[.int .i64 0, .int .i64 0, .string ⟨#[]⟩, .slice none 0 0] 25)).alloc (.cells #[.int .i64 0, .int .i64 0, .string ⟨#[]⟩, .slice none 0 0] 25)) = wv at u2 q0 q1 hHeld ⊢
     clear u1
     obtain ⟨m0, m1, m2, m3, n0, n1, n2, n3⟩ := cells8 q0
     refine reg_call (i := 14) (by kernel_rfl) rfl (fun K hK => ?_)
     go_simp
     have u4 := ((((u2.setCell (p := ⟨wd.heap.size, 0, none⟩) hsd (.int .i64 aop)).setCell (p := ⟨wd.heap.size, 1, none⟩) hsd (.int .i64 an)).setCell (p := ⟨wd.heap.size, 2, none⟩) hsd (.string aname)).setCell (p := ⟨wd.heap.size, 3, none⟩) hsd (.slice A3 akids.length p3))
     refine hK.out _ _ ?_ (fun hHeld => ?_)
     · exact h.below u4 HLT.out
     clear hK K
     try simp only [Act.put, List.setIfInBounds_toArray, List.set_cons_zero, List.set_cons_succ]
     have r0 : Row _ (wd.heap.size) 25 #[.int .i64 aop, .int .i64 an, .string aname, .slice A3 akids.length p3] := (((q0.set_ 0 (.int .i64 aop)).set_ 1 (.int .i64 an)).set_ 2 (.string aname)).set_ 3 (.slice A3 akids.length p3)
     have hne : wd.heap.size + 1 ≠ wd.heap.size := by omega
     have r1 := ((((q1.far (p := ⟨wd.heap.size, 0, none⟩) hne (.int .i64 aop)).far (p := ⟨wd.heap.size, 1, none⟩) hne (.int .i64 an)).far (p := ⟨wd.heap.size, 2, none⟩) hne (.string aname)).far (p := ⟨wd.heap.size, 3, none⟩) hne (.slice A3 akids.length p3))
     generalize ((((wv.setCell ⟨wd.heap.size, 0, none⟩ (.int .i64 aop)).setCell ⟨wd.heap.size, 1, none⟩ (.int .i64 an)).setCell ⟨wd.heap.size, 2, none⟩ (.string aname)).setCell ⟨wd.heap.size, 3, none⟩ (.slice A3 akids.length p3)) = wy at u4 r0 r1 hHeld ⊢
     clear u2 m0 m1 m2 m3 n0 n1 n2 n3
     obtain ⟨m0, m1, m2, m3, n0, n1, n2, n3⟩ := cells8 r1
     refine reg_call (i := 15) (by kernel_rfl) rfl (fun K hK => ?_)
     go_simp
     have u6 := ((((u4.setCell (p := ⟨wd.heap.size + 1, 0, none⟩) (Nat.le_succ_of_le hsd) (.int .i64 bop)).setCell (p := ⟨wd.heap.size + 1, 1, none⟩) (Nat.le_succ_of_le hsd) (.int .i64 bn)).setCell (p := ⟨wd.heap.size + 1, 2, none⟩) (Nat.le_succ_of_le hsd) (.string bname)).setCell (p := ⟨wd.heap.size + 1, 3, none⟩) (Nat.le_succ_of_le hsd) (.slice A4 bkids.length p4))
     refine hK.out _ _ ?_ (fun hHeld => ?_)
     · exact h.below u6 HLT.out
     clear hK K
     try simp only [Act.put, List.setIfInBounds_toArray, List.set_cons_zero, List.set_cons_succ]
     have t0 : Row _ (wd.heap.size + 1) 25 #[.int .i64 bop, .int .i64 bn, .string bname, .slice A4 bkids.length p4] := (((r1.set_ 0 (.int .i64 bop)).set_ 1 (.int .i64 bn)).set_ 2 (.string bname)).set_ 3 (.slice A4 bkids.length p4)
     replace hne := hne.symm
     have t1 := ((((r0.far (p := ⟨wd.heap.size + 1, 0, none⟩) hne (.int .i64 bop)).far (p := ⟨wd.heap.size + 1, 1, none⟩) hne (.int .i64 bn)).far (p := ⟨wd.heap.size + 1, 2, none⟩) hne (.string bname)).far (p := ⟨wd.heap.size + 1, 3, none⟩) hne (.slice A4 bkids.length p4))
     refine wpAnyH_done (by kernel_rfl) ?_ _
     go_wp2_with fail
     go_meet
     case rel => exact ⟨_, _, rfl, rfl, t1, t0, by omega, by omega, udd.trans u6⟩
   · go_simp
     have u1 := (Below.refl _ wd).alloc hsd (.cells #[.int .i64 0, .int .i64 0, .string ⟨#[]⟩, .slice none 0 0] 25)
     refine hK.out _ _ ?_ (fun hHeld => ?_)
     · exact h.below u1 HLT.out
     clear hK K
     try simp only [Act.put, List.setIfInBounds_toArray, List.set_cons_zero, List.set_cons_succ]
     refine reg_call (i := 12) (by kernel_rfl) rfl (fun K hK => ?_)
     go_simp
     have u2 := u1.alloc (by simp; omega) (.cells #[.int .i64 0, .int .i64 0, .string ⟨#[]⟩, .slice none 0 0] 25)
     refine hK.out _ _ ?_ (fun hHeld => ?_)
     · exact h.below u2 HLT.out
     clear hK K
     try simp only [Act.put, List.setIfInBounds_toArray, List.set_cons_zero, List.set_cons_succ]
     have q0 : Row _ wd.heap.size 25 #[.int .i64 0, .int .i64 0, .string ⟨#[]⟩, .slice none 0 0] := (Row.new wd _ _).alloc (.cells #[.int .i64 0, .int .i64 0, .string ⟨#[]⟩, .slice none 0 0] 25)
     have q1 : Row ((wd.alloc (.cells #[.int .i64 0, .int .i64 0, .string ⟨#[]⟩, .slice none 0 0] 25)).alloc (.cells #[.int .i64 0, .int .i64 0, .string ⟨#[]⟩, .slice none 0 0] 25)) (wd.heap.size + 1) 25 #[.int .i64 0, .int .i64 0, .string ⟨#[]⟩, .slice none 0 0] := by simpa using Row.new (wd.alloc (.cells #[.int .i64 0, .int .i64 0, .string ⟨#[]⟩, .slice none 0 0] 25)) 25 #[.int .i64 0, .int .i64 0, .string ⟨#[]⟩, .slice none 0 0]
     generalize ((wd.alloc (.cells #[.int .i64 0, .int .i64 0, .string ⟨#[]⟩, .slice none 0 0] 25)).alloc (.cells #[.int .i64 0, .int .i64 0, .string ⟨#[]⟩, .slice none 0 0] 25)) = wv at u2 q0 q1 hHeld ⊢
     clear u1
     obtain ⟨m0, m1, m2, m3, n0, n1, n2, n3⟩ := cells8 q1
     refine reg_call (i := 14) (by kernel_rfl) rfl (fun K hK => ?_)
     go_simp
     have u4 := ((((u2.setCell (p := ⟨wd.heap.size + 1, 0, none⟩) (Nat.le_succ_of_le hsd) (.int .i64 aop)).setCell (p := ⟨wd.heap.size + 1, 1, none⟩) (Nat.le_succ_of_le hsd) (.int .i64 an)).setCell (p := ⟨wd.heap.size + 1, 2, none⟩) (Nat.le_succ_of_le hsd) (.string aname)).setCell (p := ⟨wd.heap.size + 1, 3, none⟩) (Nat.le_succ_of_le hsd) (.slice A3 akids.length p3))
     refine hK.out _ _ ?_ (fun hHeld => ?_)
     · exact h.below u4 HLT.out
     clear hK K
     try simp only [Act.put, List.setIfInBounds_toArray, List.set_cons_zero, List.set_cons_succ]
     have r0 : Row _ (wd.heap.size + 1) 25 #[.int .i64 aop, .int .i64 an, .string aname, .slice A3 akids.length p3] := (((q1.set_ 0 (.int .i64 aop)).set_ 1 (.int .i64 an)).set_ 2 (.string aname)).set_ 3 (.slice A3 akids.length p3)
     have hne : wd.heap.size ≠ wd.heap.size + 1 := by omega
     have r1 := ((((q0.far (p := ⟨wd.heap.size + 1, 0, none⟩) hne (.int .i64 aop)).far (p := ⟨wd.heap.size + 1, 1, none⟩) hne (.int .i64 an)).far (p := ⟨wd.heap.size + 1, 2, none⟩) hne (.string aname)).far (p := ⟨wd.heap.size + 1, 3, none⟩) hne (.slice A3 akids.length p3))
     generalize ((((wv.setCell ⟨wd.heap.size + 1, 0, none⟩ (.int .i64 aop)).setCell ⟨wd.heap.size + 1, 1, none⟩ (.int .i64 an)).setCell ⟨wd.heap.size + 1, 2, none⟩ (.string aname)).setCell ⟨wd.heap.size + 1, 3, none⟩ (.slice A3 akids.length p3)) = wy at u4 r0 r1 hHeld ⊢
     clear u2 m0 m1 m2 m3 n0 n1 n2 n3
     obtain ⟨m0, m1, m2, m3, n0, n1, n2, n3⟩ := cells8 r1
     refine reg_call (i := 15) (by kernel_rfl) rfl (fun K hK => ?_)
     go_simp
     have u6 := ((((u4.setCell (p := ⟨wd.heap.size, 0, none⟩) hsd (.int .i64 bop)).setCell (p := ⟨wd.heap.size, 1, none⟩) hsd (.int .i64 bn)).setCell (p := ⟨wd.heap.size, 2, none⟩) hsd (.string bname)).setCell (p := ⟨wd.heap.size, 3, none⟩) hsd (.slice A4 bkids.length p4))
     refine hK.out _ _ ?_ (fun hHeld => ?_)
     · exact h.below u6 HLT.out
     clear hK K
     try simp only [Act.put, List.setIfInBounds_toArray, List.set_cons_zero, List.set_cons_succ]
     have t0 : Row _ (wd.heap.size) 25 #[.int .i64 bop, .int .i64 bn, .string bname, .slice A4 bkids.length p4] := (((r1.set_ 0 (.int .i64 bop)).set_ 1 (.int .i64 bn)).set_ 2 (.string bname)).set_ 3 (.slice A4 bkids.length p4)
     replace hne := hne.symm
     have t1 := ((((r0.far (p := ⟨wd.heap.size, 0, none⟩) hne (.int .i64 bop)).far (p := ⟨wd.heap.size, 1, none⟩) hne (.int .i64 bn)).far (p := ⟨wd.heap.size, 2, none⟩) hne (.string bname)).far (p := ⟨wd.heap.size, 3, none⟩) hne (.slice A4 bkids.length p4))
     refine wpAnyH_done (by kernel_rfl) ?_ _
     go_wp2_with fail
     go_meet
     case rel => exact ⟨_, _, rfl, rfl, t1, t0, by omega, by omega, udd.trans u6⟩
  case rest =>
   obtain ⟨ga, gb, rfl, rfl, RA, RB, hga, hgb, hbc⟩ := hcut
   replace hw : Below w.heap.size w wc := hw.trans (hbc.mono (by omega))
   replace RE := RE.below hbc (by omega)
   replace RR := RR.below hbc (by omega)
   clear hbc HG HL HLT g_0 k0 k1 k2 k3 k4 k5 k6 k7
   by_cases qa : aop = 1
   case neg =>
    have qa' : (aop == 1) = false := by simpa using qa
    have HN : Hid (numB 3 (Ex.mk aop an aname akids) (Ex.mk bop bn bname bkids) = false) := by show _ = _; simp [numB, Ex.op, qa]
    clear qa
    obtain ⟨y0, y1, y2, y3, y4, y5, y6, y7, y8, y9, ya, yb⟩ := cells12 RE RA RB
    go_wp2_with fail
    refine (impl_isNum bop bn bname (.slice A4 bkids.length p4) 0 _ bkids ⟨_, _, rfl⟩).mono ?_
    rw [HB0.out]
    rintro e w6 ⟨rfl, x6⟩
    clear y0 y1 y2 y3 y4 y5 y6 y7 y8 y9 ya yb
    replace hw := hw.trans (x6.mono hw.size)
    replace RE := RE.below x6 RE.lt
    replace RR := RR.below x6 RR.lt
    replace RA := RA.below x6 RA.lt
    replace RB := RB.below x6 RB.lt
    cases vB0
    case false =>
     obtain ⟨y0, y1, y2, y3, y4, y5, y6, y7, y8, y9, ya, yb⟩ := cells12 RE RA RB
     go_wp2_with fail
     refine (impl_isNum aop an aname (.slice A3 akids.length p3) 0 _ akids ⟨_, _, rfl⟩).mono ?_
     rw [HA0.out]
     rintro e w7 ⟨rfl, x7⟩
     clear y0 y1 y2 y3 y4 y5 y6 y7 y8 y9 ya yb
     replace hw := hw.trans (x7.mono hw.size)
     replace RE := RE.below x7 RE.lt
     replace RR := RR.below x7 RR.lt
     replace RA := RA.below x7 RA.lt
     replace RB := RB.below x7 RB.lt
     cases vA0
     case false =>
      obtain ⟨s0, s1, s2, s3, f0, f1, f2, f3⟩ := cells8 RR
      obtain ⟨y0, y1, y2, y3, y4, y5, y6, y7, y8, y9, ya, yb⟩ := cells12 RE RA RB
      have F := leaf_fin (f := T) hw hB (Nat.le_succ _) RR he (by rw [← HTT.out]; unfold foldTwo; simp [HN.out, HB0.out, HA0.out])
      go_wp2_with fail
      refine bodyPost_ret (by simp [results, Tryd.results47, go_sem, s0, s1, s2, s3]) rfl F.out
     case true =>
      obtain ⟨s0, s1, s2, s3, f0, f1, f2, f3⟩ := cells8 RR
      obtain ⟨y0, y1, y2, y3, y4, y5, y6, y7, y8, y9, ya, yb⟩ := cells12 RE RA RB
      have F := leaf_fin (f := T) hw hB (Nat.le_succ _) RR hb (by rw [← HTT.out]; unfold foldTwo; simp [HN.out, HB0.out, HA0.out])
      go_wp2_with fail
      refine bodyPost_ret (by simp [results, Tryd.results47, go_sem, s0, s1, s2, s3]) rfl F.out
    case true =>
     obtain ⟨s0, s1, s2, s3, f0, f1, f2, f3⟩ := cells8 RR
     obtain ⟨y0, y1, y2, y3, y4, y5, y6, y7, y8, y9, ya, yb⟩ := cells12 RE RA RB
     have F := leaf_fin (f := T) hw hB (Nat.le_succ _) RR ha (by rw [← HTT.out]; unfold foldTwo; simp [HN.out, HB0.out])
     go_wp2_with fail
     refine bodyPost_ret (by simp [results, Tryd.results47, go_sem, s0, s1, s2, s3]) rfl F.out
   by_cases qb : bop = 1
   case neg =>
    have qb' : (bop == 1) = false := by simpa using qb
    have HN : Hid (numB 3 (Ex.mk aop an aname akids) (Ex.mk bop bn bname bkids) = false) := by show _ = _; simp [numB, Ex.op, qb]
    subst qa
    clear qb
    obtain ⟨y0, y1, y2, y3, y4, y5, y6, y7, y8, y9, ya, yb⟩ := cells12 RE RA RB
    go_wp2_with fail
    refine (impl_isNum bop bn bname (.slice A4 bkids.length p4) 0 _ bkids ⟨_, _, rfl⟩).mono ?_
    rw [HB0.out]
    rintro e w6 ⟨rfl, x6⟩
    clear y0 y1 y2 y3 y4 y5 y6 y7 y8 y9 ya yb
    replace hw := hw.trans (x6.mono hw.size)
    replace RE := RE.below x6 RE.lt
    replace RR := RR.below x6 RR.lt
    replace RA := RA.below x6 RA.lt
    replace RB := RB.below x6 RB.lt
    cases vB0
    case false =>
     obtain ⟨y0, y1, y2, y3, y4, y5, y6, y7, y8, y9, ya, yb⟩ := cells12 RE RA RB
     go_wp2_with fail
     refine (impl_isNum 1 an aname (.slice A3 akids.length p3) 0 _ akids ⟨_, _, rfl⟩).mono ?_
     rw [HA0.out]
     rintro e w7 ⟨rfl, x7⟩
     clear y0 y1 y2 y3 y4 y5 y6 y7 y8 y9 ya yb
     replace hw := hw.trans (x7.mono hw.size)
     replace RE := RE.below x7 RE.lt
     replace RR := RR.below x7 RR.lt
     replace RA := RA.below x7 RA.lt
     replace RB := RB.below x7 RB.lt
     cases vA0
     case false =>
      obtain ⟨s0, s1, s2, s3, f0, f1, f2, f3⟩ := cells8 RR
      obtain ⟨y0, y1, y2, y3, y4, y5, y6, y7, y8, y9, ya, yb⟩ := cells12 RE RA RB
      have F := leaf_fin (f := T) hw hB (Nat.le_succ _) RR he (by rw [← HTT.out]; unfold foldTwo; simp [HN.out, HB0.out, HA0.out])
      go_wp2_with fail
      refine bodyPost_ret (by simp [results, Tryd.results47, go_sem, s0, s1, s2, s3]) rfl F.out
     case true =>
      obtain ⟨s0, s1, s2, s3, f0, f1, f2, f3⟩ := cells8 RR
      obtain ⟨y0, y1, y2, y3, y4, y5, y6, y7, y8, y9, ya, yb⟩ := cells12 RE RA RB
      have F := leaf_fin (f := T) hw hB (Nat.le_succ _) RR hb (by rw [← HTT.out]; unfold foldTwo; simp [HN.out, HB0.out, HA0.out])
      go_wp2_with fail
      refine bodyPost_ret (by simp [results, Tryd.results47, go_sem, s0, s1, s2, s3]) rfl F.out
    case true =>
     obtain ⟨s0, s1, s2, s3, f0, f1, f2, f3⟩ := cells8 RR
     obtain ⟨y0, y1, y2, y3, y4, y5, y6, y7, y8, y9, ya, yb⟩ := cells12 RE RA RB
     have F := leaf_fin (f := T) hw hB (Nat.le_succ _) RR ha (by rw [← HTT.out]; unfold foldTwo; simp [HN.out, HB0.out])
     go_wp2_with fail
     refine bodyPost_ret (by simp [results, Tryd.results47, go_sem, s0, s1, s2, s3]) rfl F.out
   subst qa qb
   obtain ⟨an0, an1⟩ := ra rfl
   obtain ⟨bn0, bn1⟩ := rb rfl
   clear ra rb
   have hv : (arV 3 an bn).2 = true := by simp [arV]
   have HN : Hid (numB 3 (Ex.mk 1 an aname akids) (Ex.mk 1 bn bname bkids) = true) := by show _ = _; simp [numB, Ex.op, Ex.n, hv]
   have HV := Lib.hid hv
   have hI : I64 (arV 3 an bn).1 := by
     have := arV_range (op := 3) an0 an1 bn0 bn1
     exact ⟨by omega, by omega⟩
   clear hv
   obtain ⟨y0, y1, y2, y3, y4, y5, y6, y7, y8, y9, ya, yb⟩ := cells12 RE RA RB
   go_wp2_with fail
   refine (impl_arith 3 an bn _ an0 an1 bn0 bn1).mono ?_
   rw [HV.out]
   rintro e w6 ⟨rfl, hw6⟩
   subst hw6
   clear y0 y1 y2 y3 y4 y5 y6 y7 y8 y9 ya yb
   obtain ⟨y0, y1, y2, y3, y4, y5, y6, y7, y8, y9, ya, yb⟩ := cells12 RE RA RB
   go_wp2_with fail
   refine (impl_num (d + 1) ((arV 3 an bn).1) _ hI).mono ?_
   rintro e w6 ⟨An, cn, rfl, hnr, x6⟩
   clear y0 y1 y2 y3 y4 y5 y6 y7 y8 y9 ya yb
   replace hw := hw.trans (x6.mono hw.size)
   replace RE := RE.below x6 RE.lt
   replace RR := RR.below x6 RR.lt
   replace RA := RA.below x6 RA.lt
   replace RB := RB.below x6 RB.lt
   obtain ⟨s0, s1, s2, s3, f0, f1, f2, f3⟩ := cells8 RR
   obtain ⟨y0, y1, y2, y3, y4, y5, y6, y7, y8, y9, ya, yb⟩ := cells12 RE RA RB
   have F := leaf_fin (f := T) hw hB (Nat.le_succ _) RR (hnr w lo B) (show T = exN1 ((arV 3 an bn).1) by rw [← HTT.out]; unfold foldTwo; rw [if_pos HN.out]; rfl)
   go_wp2_with fail
   refine bodyPost_ret (by simp [results, Tryd.results47, go_sem, s0, s1, s2, s3]) rfl F.out
end Go.Proofs.YthfinoapfbhgcaaDoor

namespace Go.Proofs.YthfinoapfbhgcaaDoor
open Go.RowKit Go.ChangeShapes Go.WideShapes Go.Deep
set_option linter.unusedVariables false
set_option linter.unusedSimpArgs false
set_option maxRecDepth 100000 in
set_option maxHeartbeats 16000000 in
theorem impl_foldPart_4 (d : Nat) (n : Int) (name : ByteArray) (aop an : Int) (aname : ByteArray) (akids : List Ex) (bop bn : Int) (bname : ByteArray) (bkids : List Ex) (A : Option Addr) (p : Nat) (w : World) (lo B : Nat) (hB : B ≤ w.heap.size) (hn : I64 n) (hnm : name.size ≤ maxLen)
    (h3 : ∀ m, SlT m (exT m (d + 1)) w lo B [.mk aop an aname akids, .mk bop bn bname bkids] (.slice A 2 p)) (ra : aop = 1 → 0 ≤ an ∧ an ≤ 255) (rb : bop = 1 → 0 ≤ bn ∧ bn ≤ 255) (fa : formB 6 (.mk aop an aname akids) = true) (fb : formB 6 (.mk bop bn bname bkids) = true) (va : valE (.mk aop an aname akids) = true) (vb : valE (.mk bop bn bname bkids) = true) (ht : Tabs w) :
    Calls Tryd.prog 47 #[.agg #[.int .i64 4, .int .i64 n, .string name, .slice A 2 p]] w (FoldRP (d + 1) (foldTwo 4 (Ex.mk aop an aname akids) (Ex.mk bop bn bname bkids) (Ex.mk 4 n name [(Ex.mk aop an aname akids), (Ex.mk bop bn bname bkids)])) lo B w) := by
  obtain ⟨blk, op1, n1, nm1, k1, A3, p3, rfl, hlb, hbB, HL1, oa, na, sa, ha', c0, c1, c2, c3⟩ := exT_get d h3 (show 0 < 2 by omega)
  have e1 := HL1.out
  injection e1 with e1 e2 e3 e4
  subst e1 e2 e3 e4
  obtain ⟨blk', op2, n2, nm2, k2, A4, p4, hA, _, _, HL2, ob, nb, sb, hb', c4, c5, c6, c7⟩ := exT_get d h3 (show 1 < 2 by omega)
  injection hA with hA
  injection hA with hA
  subst hA
  have e1 := HL2.out
  injection e1 with e1 e2 e3 e4
  subst e1 e2 e3 e4
  have he : ∀ m, (exT m (d + 1 + 1)).rep w lo B (Ex.mk 4 n name [(Ex.mk aop an aname akids), (Ex.mk bop bn bname bkids)]) [.int .i64 4, .int .i64 n, .string name, .slice (some ⟨blk, 0, none⟩) 2 p] := fun m => exT_mk m (d + 1) 4 n name _ _ ⟨by omega, by omega⟩ hn hnm (h3 m)
  have ha : ∀ m, (exT m (d + 1 + 1)).rep w lo B (Ex.mk aop an aname akids) [.int .i64 aop, .int .i64 an, .string aname, .slice A3 akids.length p3] := fun m => exT_le m (Nat.le_succ _) (ha' m)
  have hb : ∀ m, (exT m (d + 1 + 1)).rep w lo B (Ex.mk bop bn bname bkids) [.int .i64 bop, .int .i64 bn, .string bname, .slice A4 bkids.length p4] := fun m => exT_le m (Nat.le_succ _) (hb' m)
  have ska : Sl false (exS false d) w lo B akids (.slice A3 akids.length p3) := (exT_kids d (ha' false)).exS
  have skb : Sl false (exS false d) w lo B bkids (.slice A4 bkids.length p4) := (exT_kids d (hb' false)).exS
  have h3s : Sl false (exS false (d + 1)) w lo B [(Ex.mk aop an aname akids), (Ex.mk bop bn bname bkids)] (.slice (some ⟨blk, 0, none⟩) 2 p) := (h3 false).exS
  clear ha' hb' h3 HL1 HL2
  obtain ⟨T, hTT⟩ : ∃ T, foldTwo 4 (Ex.mk aop an aname akids) (Ex.mk bop bn bname bkids) (Ex.mk 4 n name [(Ex.mk aop an aname akids), (Ex.mk bop bn bname bkids)]) = T := ⟨_, rfl⟩
  rw [hTT]
  have HTT := Lib.hid hTT
  clear hTT
  have hblk : blk < w.heap.size := by omega
  obtain ⟨vA0, hvA0⟩ : ∃ v, isN (Ex.mk aop an aname akids) 0 = v := ⟨_, rfl⟩
  obtain ⟨vA1, hvA1⟩ : ∃ v, isN (Ex.mk aop an aname akids) 1 = v := ⟨_, rfl⟩
  obtain ⟨vB0, hvB0⟩ : ∃ v, isN (Ex.mk bop bn bname bkids) 0 = v := ⟨_, rfl⟩
  obtain ⟨vB1, hvB1⟩ : ∃ v, isN (Ex.mk bop bn bname bkids) 1 = v := ⟨_, rfl⟩
  obtain ⟨vSA, hvSA⟩ : ∃ v, safeE 6 (Ex.mk aop an aname akids) = v := ⟨_, rfl⟩
  obtain ⟨vSB, hvSB⟩ : ∃ v, safeE 6 (Ex.mk bop bn bname bkids) = v := ⟨_, rfl⟩
  have HA0 := Lib.hid hvA0
  have HA1 := Lib.hid hvA1
  have HB0 := Lib.hid hvB0
  have HB1 := Lib.hid hvB1
  have HSA := Lib.hid hvSA
  have HSB := Lib.hid hvSB
  clear hvA0 hvA1 hvB0 hvB1 hvSA hvSB

  have HT := Lib.hid (fun (w9 : World) (h9 : Below w.heap.size w w9) => ht.below h9 (Nat.le_refl _))
  clear ht
  have HBSA : Hid (safB (Ex.mk aop an aname akids) = vSA) := by show _ = _; unfold safB; rw [va, HSA.out]; rfl
  have HBSB : Hid (safB (Ex.mk bop bn bname bkids) = vSB) := by show _ = _; unfold safB; rw [vb, HSB.out]; rfl
  replace va := Lib.hid va
  replace vb := Lib.hid vb
  clear fa fb
  have hw : Below w.heap.size w ((w.alloc (.cells #[.int .i64 4, .int .i64 n, .string name, .slice (some ⟨blk, 0, none⟩) 2 p] 25)).alloc (.cells #[.int .i64 0, .int .i64 0, .string ⟨#[]⟩, .slice none 0 0] 25)) := ((Below.refl _ _).alloc (Nat.le_refl _) _).alloc (by simp) _
  have RE : Row _ w.heap.size 25 #[.int .i64 4, .int .i64 n, .string name, .slice (some ⟨blk, 0, none⟩) 2 p] := (Row.new w _ _).alloc (.cells #[.int .i64 0, .int .i64 0, .string ⟨#[]⟩, .slice none 0 0] 25)
  have RR : Row ((w.alloc (.cells #[.int .i64 4, .int .i64 n, .string name, .slice (some ⟨blk, 0, none⟩) 2 p] 25)).alloc (.cells #[.int .i64 0, .int .i64 0, .string ⟨#[]⟩, .slice none 0 0] 25)) (w.heap.size + 1) 25 #[.int .i64 0, .int .i64 0, .string ⟨#[]⟩, .slice none 0 0] := by simpa using Row.new (w.alloc (.cells #[.int .i64 4, .int .i64 n, .string name, .slice (some ⟨blk, 0, none⟩) 2 p] 25)) 25 #[.int .i64 0, .int .i64 0, .string ⟨#[]⟩, .slice none 0 0]
  obtain ⟨k0, k1, k2, k3, k4, k5, k6, k7⟩ := kids8 hw hblk c0 c1 c2 c3 c4 c5 c6 c7
  have g_0 := RE.cell 3
  obtain ⟨L, hL⟩ : ∃ L : List (Addr × Value), [(⟨w.heap.size, 3, none⟩, .slice (some ⟨blk, 0, none⟩) 2 p), (⟨blk, 0, none⟩, .int .i64 aop), (⟨blk, 1, none⟩, .int .i64 an), (⟨blk, 2, none⟩, .string aname), (⟨blk, 3, none⟩, .slice A3 akids.length p3), (⟨blk, 4, none⟩, .int .i64 bop), (⟨blk, 5, none⟩, .int .i64 bn), (⟨blk, 6, none⟩, .string bname), (⟨blk, 7, none⟩, .slice A4 bkids.length p4)] = L := ⟨_, rfl⟩
  have HG : Hid (Has ((w.alloc (.cells #[.int .i64 4, .int .i64 n, .string name, .slice (some ⟨blk, 0, none⟩) 2 p] 25)).alloc (.cells #[.int .i64 0, .int .i64 0, .string ⟨#[]⟩, .slice none 0 0] 25)) L) := by
    subst hL
    exact .cons (RE.cell 3) (.cons k0 (.cons k1 (.cons k2 (.cons k3 (.cons k4 (.cons k5 (.cons k6 (.cons k7 .nil))))))))
  have HLT : Hid (∀ x ∈ L, x.1.block < w.heap.size + 2) := by
    subst hL
    exact lcons (by dsimp only; omega) (lcons (by dsimp only; omega) (lcons (by dsimp only; omega) (lcons (by dsimp only; omega) (lcons (by dsimp only; omega) (lcons (by dsimp only; omega) (lcons (by dsimp only; omega) (lcons (by dsimp only; omega) (lcons (by dsimp only; omega) (lnil)))))))))
  replace hL := Lib.hid hL.symm
  have HL := hL
  clear hL
  clear c0 c1 c2 c3 c4 c5 c6 c7
  go_enter Tryd.func47, Tryd.ntmps47
  go_wp2_with fail
  go_cut [3, 4] (fun s3 s4 wx => ∃ ga gb : Nat, s3 = .pointer (some ⟨ga, 0, none⟩) ∧ s4 = .pointer (some ⟨gb, 0, none⟩) ∧ Row wx ga 25 #[.int .i64 aop, .int .i64 an, .string aname, .slice A3 akids.length p3] ∧ Row wx gb 25 #[.int .i64 bop, .int .i64 bn, .string bname, .slice A4 bkids.length p4] ∧ w.heap.size + 1 < ga ∧ w.heap.size + 1 < gb ∧ Below (w.heap.size + 2) ((w.alloc (.cells #[.int .i64 4, .int .i64 n, .string name, .slice (some ⟨blk, 0, none⟩) 2 p] 25)).alloc (.cells #[.int .i64 0, .int .i64 0, .string ⟨#[]⟩, .slice none 0 0] 25)) wx)
  case first =>
   refine wp_region_held_drew (S := fun w' => Has w' L) (by kernel_rfl) ?_ (fun hHeld => ?_)
   · exact HG.out
   have udd : Below (w.heap.size + 2) ((w.alloc (.cells #[.int .i64 4, .int .i64 n, .string name, .slice (some ⟨blk, 0, none⟩) 2 p] 25)).alloc (.cells #[.int .i64 0, .int .i64 0, .string ⟨#[]⟩, .slice none 0 0] 25)) ((w.alloc (.cells #[.int .i64 4, .int .i64 n, .string name, .slice (some ⟨blk, 0, none⟩) 2 p] 25)).alloc (.cells #[.int .i64 0, .int .i64 0, .string ⟨#[]⟩, .slice none 0 0] 25)).drew := (Below.refl _ _).drew
   have hsd : w.heap.size + 2 ≤ ((w.alloc (.cells #[.int .i64 4, .int .i64 n, .string name, .slice (some ⟨blk, 0, none⟩) 2 p] 25)).alloc (.cells #[.int .i64 0, .int .i64 0, .string ⟨#[]⟩, .slice none 0 0] 25)).drew.heap.size := by show _ ≤ ((w.alloc (.cells #[.int .i64 4, .int .i64 n, .string name, .slice (some ⟨blk, 0, none⟩) 2 p] 25)).alloc (.cells #[.int .i64 0, .int .i64 0, .string ⟨#[]⟩, .slice none 0 0] 25)).heap.size; simp
   have h : Has ((w.alloc (.cells #[.int .i64 4, .int .i64 n, .string name, .slice (some ⟨blk, 0, none⟩) 2 p] 25)).alloc (.cells #[.int .i64 0, .int .i64 0, .string ⟨#[]⟩, .slice none 0 0] 25)).drew L := HG.out
   generalize ((w.alloc (.cells #[.int .i64 4, .int .i64 n, .string name, .slice (some ⟨blk, 0, none⟩) 2 p] 25)).alloc (.cells #[.int .i64 0, .int .i64 0, .string ⟨#[]⟩, .slice none 0 0] 25)).drew = wd at udd hsd hHeld h ⊢
   have h9 := h.nine HL.out
   dsimp only at h9
   obtain ⟨h_0, h_1, h_2, h_3, h_4, h_5, h_6, h_7, h_8⟩ := h9
   refine reg_take (i := 0) (v := ?v1) rfl (by kernel_rfl) (by kernel_rfl) (by kernel_rfl) (fun _ _ _ h => h) (Or.inl ⟨by kernel_rfl, ?h1⟩) (by assumption) ?r1
   case h1 => (intro w hSw; have hSw := Has.nine hSw HL.out; dsimp only at hSw; go_simp; try with_reducible rfl)
   try simp only [Act.put, List.setIfInBounds_toArray, List.set_cons_zero, List.set_cons_succ]
   refine reg_take (i := 1) (v := ?v2) rfl (by kernel_rfl) (by kernel_rfl) (by kernel_rfl) (fun _ _ _ h => h) (Or.inl ⟨by kernel_rfl, ?h2⟩) (by assumption) ?r2
   case h2 => (intro w hSw; have hSw := Has.nine hSw HL.out; dsimp only at hSw; go_simp; try with_reducible rfl)
   try simp only [Act.put, List.setIfInBounds_toArray, List.set_cons_zero, List.set_cons_succ]
   refine reg_take (i := 2) (v := ?v3) rfl (by kernel_rfl) (by kernel_rfl) (by kernel_rfl) (fun _ _ _ h => h) (Or.inl ⟨by kernel_rfl, ?h3⟩) (by assumption) ?r3
   case h3 => (intro w hSw; have hSw := Has.nine hSw HL.out; dsimp only at hSw; go_simp; try with_reducible rfl)
   try simp only [Act.put, List.setIfInBounds_toArray, List.set_cons_zero, List.set_cons_succ]
   refine reg_take (i := 3) (v := ?v4) rfl (by kernel_rfl) (by kernel_rfl) (by kernel_rfl) (fun _ _ _ h => h) (Or.inl ⟨by kernel_rfl, ?h4⟩) (by assumption) ?r4
   case h4 => (intro w hSw; have hSw := Has.nine hSw HL.out; dsimp only at hSw; go_simp; try with_reducible rfl)
   try simp only [Act.put, List.setIfInBounds_toArray, List.set_cons_zero, List.set_cons_succ]
   refine reg_take (i := 4) (v := ?v5) rfl (by kernel_rfl) (by kernel_rfl) (by kernel_rfl) (fun _ _ _ h => h) (Or.inl ⟨by kernel_rfl, ?h5⟩) (by assumption) ?r5
   case h5 => (intro w hSw; have hSw := Has.nine hSw HL.out; dsimp only at hSw; go_simp; try with_reducible rfl)
   try simp only [Act.put, List.setIfInBounds_toArray, List.set_cons_zero, List.set_cons_succ]
   refine reg_take (i := 5) (v := ?v6) rfl (by kernel_rfl) (by kernel_rfl) (by kernel_rfl) (fun _ _ _ h => h) (Or.inl ⟨by kernel_rfl, ?h6⟩) (by assumption) ?r6
   case h6 => (intro w hSw; have hSw := Has.nine hSw HL.out; dsimp only at hSw; go_simp; try with_reducible rfl)
   try simp only [Act.put, List.setIfInBounds_toArray, List.set_cons_zero, List.set_cons_succ]
   refine reg_take (i := 6) (v := ?v7) rfl (by kernel_rfl) (by kernel_rfl) (by kernel_rfl) (fun _ _ _ h => h) (Or.inl ⟨by kernel_rfl, ?h7⟩) (by assumption) ?r7
   case h7 => (intro w hSw; have hSw := Has.nine hSw HL.out; dsimp only at hSw; go_simp; try with_reducible rfl)
   try simp only [Act.put, List.setIfInBounds_toArray, List.set_cons_zero, List.set_cons_succ]
   refine reg_take (i := 7) (v := ?v8) rfl (by kernel_rfl) (by kernel_rfl) (by kernel_rfl) (fun _ _ _ h => h) (Or.inl ⟨by kernel_rfl, ?h8⟩) (by assumption) ?r8
   case h8 => (intro w hSw; have hSw := Has.nine hSw HL.out; dsimp only at hSw; go_simp; try with_reducible rfl)
   try simp only [Act.put, List.setIfInBounds_toArray, List.set_cons_zero, List.set_cons_succ]
   refine reg_take (i := 8) (v := ?v9) rfl (by kernel_rfl) (by kernel_rfl) (by kernel_rfl) (fun _ _ _ h => h) (Or.inl ⟨by kernel_rfl, ?h9⟩) (by assumption) ?r9
   case h9 => (intro w hSw; have hSw := Has.nine hSw HL.out; dsimp only at hSw; go_simp; try with_reducible rfl)
   try simp only [Act.put, List.setIfInBounds_toArray, List.set_cons_zero, List.set_cons_succ]
   refine reg_take (i := 9) (v := .int .i64 1) rfl (by kernel_rfl) (by kernel_rfl) (by kernel_rfl) (fun _ _ _ h => h) (Or.inl ⟨by kernel_rfl, ?h10⟩) (by assumption) ?r10
   case h10 => (intro w hSw; have hSw := Has.nine hSw HL.out; dsimp only at hSw; go_simp; try rfl)
   try simp only [Act.put, List.setIfInBounds_toArray, List.set_cons_zero, List.set_cons_succ]
   refine reg_take (i := 10) (v := ?v11) rfl (by kernel_rfl) (by kernel_rfl) (by kernel_rfl) (fun _ _ _ h => h) (Or.inl ⟨by kernel_rfl, ?h11⟩) (by assumption) ?r11
   case h11 => (intro w hSw; have hSw := Has.nine hSw HL.out; dsimp only at hSw; go_simp; try with_reducible rfl)
   try simp only [Act.put, List.setIfInBounds_toArray, List.set_cons_zero, List.set_cons_succ]
   refine reg_take (i := 11) (v := ?v12) rfl (by kernel_rfl) (by kernel_rfl) (by kernel_rfl) (fun _ _ _ h => h) (Or.inl ⟨by kernel_rfl, ?h12⟩) (by assumption) ?r12
   case h12 => (intro w hSw; have hSw := Has.nine hSw HL.out; dsimp only at hSw; go_simp; try with_reducible rfl)
   try simp only [Act.put, List.setIfInBounds_toArray, List.set_cons_zero, List.set_cons_succ]
   refine reg_call2 (i := 12) (j := 13) (by kernel_rfl) rfl rfl (fun K hK => ?_) (fun K hK => ?_)
   · go_simp
     have u1 := (Below.refl _ wd).alloc hsd (.cells #[.int .i64 0, .int .i64 0, .string ⟨#[]⟩, .slice none 0 0] 25)
     refine hK.out _ _ ?_ (fun hHeld => ?_)
     · exact h.below u1 HLT.out
     clear hK K
     try simp only [Act.put, List.setIfInBounds_toArray, List.set_cons_zero, List.set_cons_succ]
     refine reg_call (i := 13) (by kernel_rfl) rfl (fun K hK => ?_)
     go_simp
     have u2 := u1.alloc (by simp; omega) (.cells #[.int .i64 0, .int .i64 0, .string ⟨#[]⟩, .slice none 0 0] 25)
     refine hK.out _ _ ?_ (fun hHeld => ?_)
     · exact h.below u2 HLT.out
     clear hK K
     try simp only [Act.put, List.setIfInBounds_toArray, List.set_cons_zero, List.set_cons_succ]
     have q0 : Row _ wd.heap.size 25 #[.int .i64 0, .int .i64 0, .string ⟨#[]⟩, .slice none 0 0] := (Row.new wd _ _).alloc (.cells #[.int .i64 0, .int .i64 0, .string ⟨#[]⟩, .slice none 0 0] 25)
     have q1 : Row ((wd.alloc (.cells #[.int .i64 0, .int .i64 0, .string ⟨#[]⟩, .slice none 0 0] 25)).alloc (.cells #[.int .i64 0, .int .i64 0, .string ⟨#[]⟩, .slice none 0 0] 25)) (wd.heap.size + 1) 25 #[.int .i64 0, .int .i64 0, .string ⟨#[]⟩, .slice none 0 0] := by simpa using Row.new (wd.alloc (.cells #[.int .i64 0, .int .i64 0, .string ⟨#[]⟩, .slice none 0 0] 25)) 25 #[.int .i64 0, .int .i64 0, .string ⟨#[]⟩, .slice none 0 0]
     generalize ((wd.alloc (.cells #[.int .i64 0, .int .i64 0, .string ⟨#[]⟩, .slice none 0 0] 25)).alloc (.cells #[.int .i64 0, .int .i64 0, .string ⟨#[]⟩, .slice none 0 0] 25)) = wv at u2 q0 q1 hHeld ⊢
     clear u1
     obtain ⟨m0, m1, m2, m3, n0, n1, n2, n3⟩ := cells8 q0
     refine reg_call (i := 14) (by kernel_rfl) rfl (fun K hK => ?_)
     go_simp
     have u4 := ((((u2.setCell (p := ⟨wd.heap.size, 0, none⟩) hsd (.int .i64 aop)).setCell (p := ⟨wd.heap.size, 1, none⟩) hsd (.int .i64 an)).setCell (p := ⟨wd.heap.size, 2, none⟩) hsd (.string aname)).setCell (p := ⟨wd.heap.size, 3, none⟩) hsd (.slice A3 akids.length p3))
     refine hK.out _ _ ?_ (fun hHeld => ?_)
     · exact h.below u4 HLT.out
     clear hK K
     try simp only [Act.put, List.setIfInBounds_toArray, List.set_cons_zero, List.set_cons_succ]
     have r0 : Row _ (wd.heap.size) 25 #[.int .i64 aop, .int .i64 an, .string aname, .slice A3 akids.length p3] := (((q0.set_ 0 (.int .i64 aop)).set_ 1 (.int .i64 an)).set_ 2 (.string aname)).set_ 3 (.slice A3 akids.length p3)
     have hne : wd.heap.size + 1 ≠ wd.heap.size := by omega
     have r1 := ((((q1.far (p := ⟨wd.heap.size, 0, none⟩) hne (.int .i64 aop)).far (p := ⟨wd.heap.size, 1, none⟩) hne (.int .i64 an)).far (p := ⟨wd.heap.size, 2, none⟩) hne (.string aname)).far (p := ⟨wd.heap.size, 3, none⟩) hne (.slice A3 akids.length p3))
     generalize ((((wv.setCell ⟨wd.heap.size, 0, none⟩ (.int .i64 aop)).setCell ⟨wd.heap.size, 1, none⟩ (.int .i64 an)).setCell ⟨wd.heap.size, 2, none⟩ (.string aname)).setCell ⟨wd.heap.size, 3, none⟩ (.slice A3 akids.length p3)) = wy at u4 r0 r1 hHeld ⊢
     clear u2 m0 m1 m2 m3 n0 n1 n2 n3
     obtain ⟨m0, m1, m2, m3, n0, n1, n2, n3⟩ := cells8 r1
     refine reg_call (i := 15) (by kernel_rfl) rfl (fun K hK => ?_)
     go_simp
     have u6 := ((((u4.setCell (p := ⟨wd.heap.size + 1, 0, none⟩) (Nat.le_succ_of_le hsd) (.int .i64 bop)).setCell (p := ⟨wd.heap.size + 1, 1, none⟩) (Nat.le_succ_of_le hsd) (.int .i64 bn)).setCell (p := ⟨wd.heap.size + 1, 2, none⟩) (Nat.le_succ_of_le hsd) (.string bname)).setCell (p := ⟨wd.heap.size + 1, 3, none⟩) (Nat.le_succ_of_le hsd) (.slice A4 bkids.length p4))
     refine hK.out _ _ ?_ (fun hHeld => ?_)
     · exact h.below u6 HLT.out
     clear hK K
     try simp only [Act.put, List.setIfInBounds_toArray, List.set_cons_zero, List.set_cons_succ]
     have t0 : Row _ (wd.heap.size + 1) 25 #[.int .i64 bop, .int .i64 bn, .string bname, .slice A4 bkids.length p4] := (((r1.set_ 0 (.int .i64 bop)).set_ 1 (.int .i64 bn)).set_ 2 (.string bname)).set_ 3 (.slice A4 bkids.length p4)
     replace hne := hne.symm
     have t1 := ((((r0.far (p := ⟨wd.heap.size + 1, 0, none⟩) hne (.int .i64 bop)).far (p := ⟨wd.heap.size + 1, 1, none⟩) hne (.int .i64 bn)).far (p := ⟨wd.heap.size + 1, 2, none⟩) hne (.string bname)).far (p := ⟨wd.heap.size + 1, 3, none⟩) hne (.slice A4 bkids.length p4))
     refine wpAnyH_done (by kernel_rfl) ?_ _
     go_wp2_with fail
     go_meet
     case rel => exact ⟨_, _, rfl, rfl, t1, t0, by omega, by omega, udd.trans u6⟩
   · go_simp
     have u1 := (Below.refl _ wd).alloc hsd (.cells #[.int .i64 0, .int .i64 0, .string ⟨#[]⟩, .slice none 0 0] 25)
     refine hK.out _ _ ?_ (fun hHeld => ?_)
     · exact h.below u1 HLT.out
     clear hK K
     try simp only [Act.put, List.setIfInBounds_toArray, List.set_cons_zero, List.set_cons_succ]
     refine reg_call (i := 12) (by kernel_rfl) rfl (fun K hK => ?_)
     go_simp
     have u2 := u1.alloc (by simp; omega) (.cells #[.int .i64 0, .int .i64 0, .string ⟨#[]⟩, .slice none 0 0] 25)
     refine hK.out _ _ ?_ (fun hHeld => ?_)
     · exact h.below u2 HLT.out
     clear hK K
     try simp only [Act.put, List.setIfInBounds_toArray, List.set_cons_zero, List.set_cons_succ]
     have q0 : Row _ wd.heap.size 25 #[.int .i64 0, .int .i64 0, .string ⟨#[]⟩, .slice none 0 0] := (Row.new wd _ _).alloc (.cells #[.int .i64 0, .int .i64 0, .string ⟨#[]⟩, .slice none 0 0] 25)
     have q1 : Row ((wd.alloc (.cells #[.int .i64 0, .int .i64 0, .string ⟨#[]⟩, .slice none 0 0] 25)).alloc (.cells #[.int .i64 0, .int .i64 0, .string ⟨#[]⟩, .slice none 0 0] 25)) (wd.heap.size + 1) 25 #[.int .i64 0, .int .i64 0, .string ⟨#[]⟩, .slice none 0 0] := by simpa using Row.new (wd.alloc (.cells #[.int .i64 0, .int .i64 0, .string ⟨#[]⟩, .slice none 0 0] 25)) 25 #[.int .i64 0, .int .i64 0, .string ⟨#[]⟩, .slice none 0 0]
     generalize ((wd.alloc (.cells #[.int .i64 0, .int .i64 0, .string ⟨#[]⟩, .slice none 0 0] 25)).alloc (.cells #[.int .i64 0, .int .i64 0, .string ⟨#[]⟩, .slice none 0 0] 25)) = wv at u2 q0 q1 hHeld ⊢
     clear u1
     obtain ⟨m0, m1, m2, m3, n0, n1, n2, n3⟩ := cells8 q1
     refine reg_call (i := 14) (by kernel_rfl) rfl (fun K hK => ?_)
     go_simp
     have u4 := ((((u2.setCell (p := ⟨wd.heap.size + 1, 0, none⟩) (Nat.le_succ_of_le hsd) (.int .i64 aop)).setCell (p := ⟨wd.heap.size + 1, 1, none⟩) (Nat.le_succ_of_le hsd) (.int .i64 an)).setCell (p := ⟨wd.heap.size + 1, 2, none⟩) (Nat.le_succ_of_le hsd) (.string aname)).setCell (p := ⟨wd.heap.size + 1, 3, none⟩) (Nat.le_succ_of_le hsd) (.slice A3 akids.length p3))
     refine hK.out _ _ ?_ (fun hHeld => ?_)
     · exact h.below u4 HLT.out
     clear hK K
     try simp only [Act.put, List.setIfInBounds_toArray, List.set_cons_zero, List.set_cons_succ]
     have r0 : Row _ (wd.heap.size + 1) 25 #[.int .i64 aop, .int .i64 an, .string aname, .slice A3 akids.length p3] := (((q1.set_ 0 (.int .i64 aop)).set_ 1 (.int .i64 an)).set_ 2 (.string aname)).set_ 3 (.slice A3 akids.length p3)
     have hne : wd.heap.size ≠ wd.heap.size + 1 := by omega
     have r1 := ((((q0.far (p := ⟨wd.heap.size + 1, 0, none⟩) hne (.int .i64 aop)).far (p := ⟨wd.heap.size + 1, 1, none⟩) hne (.int .i64 an)).far (p := ⟨wd.heap.size + 1, 2, none⟩) hne (.string aname)).far (p := ⟨wd.heap.size + 1, 3, none⟩) hne (.slice A3 akids.length p3))
     generalize ((((wv.setCell ⟨wd.heap.size + 1, 0, none⟩ (.int .i64 aop)).setCell ⟨wd.heap.size + 1, 1, none⟩ (.int .i64 an)).setCell ⟨wd.heap.size + 1, 2, none⟩ (.string aname)).setCell ⟨wd.heap.size + 1, 3, none⟩ (.slice A3 akids.length p3)) = wy at u4 r0 r1 hHeld ⊢
     clear u2 m0 m1 m2 m3 n0 n1 n2 n3
     obtain ⟨m0, m1, m2, m3, n0, n1, n2, n3⟩ := cells8 r1
     refine reg_call (i := 15) (by kernel_rfl) rfl (fun K hK => ?_)
     go_simp
     have u6 := ((((u4.setCell (p := ⟨wd.heap.size, 0, none⟩) hsd (.int .i64 bop)).setCell (p := ⟨wd.heap.size, 1, none⟩) hsd (.int .i64 bn)).setCell (p := ⟨wd.heap.size, 2, none⟩) hsd (.string bname)).setCell (p := ⟨wd.heap.size, 3, none⟩) hsd (.slice A4 bkids.length p4))
     refine hK.out _ _ ?_ (fun hHeld => ?_)
     · exact h.below u6 HLT.out
     clear hK K
     try simp only [Act.put, List.setIfInBounds_toArray, List.set_cons_zero, List.set_cons_succ]
     have t0 : Row _ (wd.heap.size) 25 #[.int .i64 bop, .int .i64 bn, .string bname, .slice A4 bkids.length p4] := (((r1.set_ 0 (.int .i64 bop)).set_ 1 (.int .i64 bn)).set_ 2 (.string bname)).set_ 3 (.slice A4 bkids.length p4)
     replace hne := hne.symm
     have t1 := ((((r0.far (p := ⟨wd.heap.size, 0, none⟩) hne (.int .i64 bop)).far (p := ⟨wd.heap.size, 1, none⟩) hne (.int .i64 bn)).far (p := ⟨wd.heap.size, 2, none⟩) hne (.string bname)).far (p := ⟨wd.heap.size, 3, none⟩) hne (.slice A4 bkids.length p4))
     refine wpAnyH_done (by kernel_rfl) ?_ _
     go_wp2_with fail
     go_meet
     case rel => exact ⟨_, _, rfl, rfl, t1, t0, by omega, by omega, udd.trans u6⟩
  case rest =>
   obtain ⟨ga, gb, rfl, rfl, RA, RB, hga, hgb, hbc⟩ := hcut
   replace hw : Below w.heap.size w wc := hw.trans (hbc.mono (by omega))
   replace RE := RE.below hbc (by omega)
   replace RR := RR.below hbc (by omega)
   clear hbc HG HL HLT g_0 k0 k1 k2 k3 k4 k5 k6 k7
   by_cases qa : aop = 1
   case neg =>
    have qa' : (aop == 1) = false := by simpa using qa
    have HN : Hid (numB 4 (Ex.mk aop an aname akids) (Ex.mk bop bn bname bkids) = false) := by show _ = _; simp [numB, Ex.op, qa]
    clear qa
    obtain ⟨y0, y1, y2, y3, y4, y5, y6, y7, y8, y9, ya, yb⟩ := cells12 RE RA RB
    go_wp2_with fail
    refine (impl_isNum bop bn bname (.slice A4 bkids.length p4) 0 _ bkids ⟨_, _, rfl⟩).mono ?_
    rw [HB0.out]
    rintro e w6 ⟨rfl, x6⟩
    clear y0 y1 y2 y3 y4 y5 y6 y7 y8 y9 ya yb
    replace hw := hw.trans (x6.mono hw.size)
    replace RE := RE.below x6 RE.lt
    replace RR := RR.below x6 RR.lt
    replace RA := RA.below x6 RA.lt
    replace RB := RB.below x6 RB.lt
    cases vB0
    case false =>
     obtain ⟨s0, s1, s2, s3, f0, f1, f2, f3⟩ := cells8 RR
     obtain ⟨y0, y1, y2, y3, y4, y5, y6, y7, y8, y9, ya, yb⟩ := cells12 RE RA RB
     have F := leaf_fin (f := T) hw hB (Nat.le_succ _) RR he (by rw [← HTT.out]; unfold foldTwo; simp [HN.out, HB0.out])
     go_wp2_with fail
     refine bodyPost_ret (by simp [results, Tryd.results47, go_sem, s0, s1, s2, s3]) rfl F.out
    case true =>
     obtain ⟨s0, s1, s2, s3, f0, f1, f2, f3⟩ := cells8 RR
     obtain ⟨y0, y1, y2, y3, y4, y5, y6, y7, y8, y9, ya, yb⟩ := cells12 RE RA RB
     have F := leaf_fin (f := T) hw hB (Nat.le_succ _) RR ha (by rw [← HTT.out]; unfold foldTwo; simp [HN.out, HB0.out])
     go_wp2_with fail
     refine bodyPost_ret (by simp [results, Tryd.results47, go_sem, s0, s1, s2, s3]) rfl F.out
   by_cases qb : bop = 1
   case neg =>
    have qb' : (bop == 1) = false := by simpa using qb
    have HN : Hid (numB 4 (Ex.mk aop an aname akids) (Ex.mk bop bn bname bkids) = false) := by show _ = _; simp [numB, Ex.op, qb]
    subst qa
    clear qb
    obtain ⟨y0, y1, y2, y3, y4, y5, y6, y7, y8, y9, ya, yb⟩ := cells12 RE RA RB
    go_wp2_with fail
    refine (impl_isNum bop bn bname (.slice A4 bkids.length p4) 0 _ bkids ⟨_, _, rfl⟩).mono ?_
    rw [HB0.out]
    rintro e w6 ⟨rfl, x6⟩
    clear y0 y1 y2 y3 y4 y5 y6 y7 y8 y9 ya yb
    replace hw := hw.trans (x6.mono hw.size)
    replace RE := RE.below x6 RE.lt
    replace RR := RR.below x6 RR.lt
    replace RA := RA.below x6 RA.lt
    replace RB := RB.below x6 RB.lt
    cases vB0
    case false =>
     obtain ⟨s0, s1, s2, s3, f0, f1, f2, f3⟩ := cells8 RR
     obtain ⟨y0, y1, y2, y3, y4, y5, y6, y7, y8, y9, ya, yb⟩ := cells12 RE RA RB
     have F := leaf_fin (f := T) hw hB (Nat.le_succ _) RR he (by rw [← HTT.out]; unfold foldTwo; simp [HN.out, HB0.out])
     go_wp2_with fail
     refine bodyPost_ret (by simp [results, Tryd.results47, go_sem, s0, s1, s2, s3]) rfl F.out
    case true =>
     obtain ⟨s0, s1, s2, s3, f0, f1, f2, f3⟩ := cells8 RR
     obtain ⟨y0, y1, y2, y3, y4, y5, y6, y7, y8, y9, ya, yb⟩ := cells12 RE RA RB
     have F := leaf_fin (f := T) hw hB (Nat.le_succ _) RR ha (by rw [← HTT.out]; unfold foldTwo; simp [HN.out, HB0.out])
     go_wp2_with fail
     refine bodyPost_ret (by simp [results, Tryd.results47, go_sem, s0, s1, s2, s3]) rfl F.out
   subst qa qb
   obtain ⟨an0, an1⟩ := ra rfl
   obtain ⟨bn0, bn1⟩ := rb rfl
   clear ra rb
   have hv : (arV 4 an bn).2 = true := by simp [arV]
   have HN : Hid (numB 4 (Ex.mk 1 an aname akids) (Ex.mk 1 bn bname bkids) = true) := by show _ = _; simp [numB, Ex.op, Ex.n, hv]
   have HV := Lib.hid hv
   have hI : I64 (arV 4 an bn).1 := by
     have := arV_range (op := 4) an0 an1 bn0 bn1
     exact ⟨by omega, by omega⟩
   clear hv
   obtain ⟨y0, y1, y2, y3, y4, y5, y6, y7, y8, y9, ya, yb⟩ := cells12 RE RA RB
   go_wp2_with fail
   refine (impl_arith 4 an bn _ an0 an1 bn0 bn1).mono ?_
   rw [HV.out]
   rintro e w6 ⟨rfl, hw6⟩
   subst hw6
   clear y0 y1 y2 y3 y4 y5 y6 y7 y8 y9 ya yb
   obtain ⟨y0, y1, y2, y3, y4, y5, y6, y7, y8, y9, ya, yb⟩ := cells12 RE RA RB
   go_wp2_with fail
   refine (impl_num (d + 1) ((arV 4 an bn).1) _ hI).mono ?_
   rintro e w6 ⟨An, cn, rfl, hnr, x6⟩
   clear y0 y1 y2 y3 y4 y5 y6 y7 y8 y9 ya yb
   replace hw := hw.trans (x6.mono hw.size)
   replace RE := RE.below x6 RE.lt
   replace RR := RR.below x6 RR.lt
   replace RA := RA.below x6 RA.lt
   replace RB := RB.below x6 RB.lt
   obtain ⟨s0, s1, s2, s3, f0, f1, f2, f3⟩ := cells8 RR
   obtain ⟨y0, y1, y2, y3, y4, y5, y6, y7, y8, y9, ya, yb⟩ := cells12 RE RA RB
   have F := leaf_fin (f := T) hw hB (Nat.le_succ _) RR (hnr w lo B) (show T = exN1 ((arV 4 an bn).1) by rw [← HTT.out]; unfold foldTwo; rw [if_pos HN.out]; rfl)
   go_wp2_with fail
   refine bodyPost_ret (by simp [results, Tryd.results47, go_sem, s0, s1, s2, s3]) rfl F.out
end Go.Proofs.YthfinoapfbhgcaaDoor

namespace Go.Proofs.YthfinoapfbhgcaaDoor
open Go.RowKit Go.ChangeShapes Go.WideShapes Go.Deep
set_option linter.unusedVariables false
set_option linter.unusedSimpArgs false
set_option maxRecDepth 100000 in
set_option maxHeartbeats 16000000 in
theorem impl_foldPart_5 (d : Nat) (n : Int) (name : ByteArray) (aop an : Int) (aname : ByteArray) (akids : List Ex) (bop bn : Int) (bname : ByteArray) (bkids : List Ex) (A : Option Addr) (p : Nat) (w : World) (lo B : Nat) (hB : B ≤ w.heap.size) (hn : I64 n) (hnm : name.size ≤ maxLen)
    (h3 : ∀ m, SlT m (exT m (d + 1)) w lo B [.mk aop an aname akids, .mk bop bn bname bkids] (.slice A 2 p)) (ra : aop = 1 → 0 ≤ an ∧ an ≤ 255) (rb : bop = 1 → 0 ≤ bn ∧ bn ≤ 255) (fa : formB 6 (.mk aop an aname akids) = true) (fb : formB 6 (.mk bop bn bname bkids) = true) (va : valE (.mk aop an aname akids) = true) (vb : valE (.mk bop bn bname bkids) = true) (ht : Tabs w) :
    Calls Tryd.prog 47 #[.agg #[.int .i64 5, .int .i64 n, .string name, .slice A 2 p]] w (FoldRP (d + 1) (foldTwo 5 (Ex.mk aop an aname akids) (Ex.mk bop bn bname bkids) (Ex.mk 5 n name [(Ex.mk aop an aname akids), (Ex.mk bop bn bname bkids)])) lo B w) := by
  obtain ⟨blk, op1, n1, nm1, k1, A3, p3, rfl, hlb, hbB, HL1, oa, na, sa, ha', c0, c1, c2, c3⟩ := exT_get d h3 (show 0 < 2 by omega)
  have e1 := HL1.out
  injection e1 with e1 e2 e3 e4
  subst e1 e2 e3 e4
  obtain ⟨blk', op2, n2, nm2, k2, A4, p4, hA, _, _, HL2, ob, nb, sb, hb', c4, c5, c6, c7⟩ := exT_get d h3 (show 1 < 2 by omega)
  injection hA with hA
  injection hA with hA
  subst hA
  have e1 := HL2.out
  injection e1 with e1 e2 e3 e4
  subst e1 e2 e3 e4
  have he : ∀ m, (exT m (d + 1 + 1)).rep w lo B (Ex.mk 5 n name [(Ex.mk aop an aname akids), (Ex.mk bop bn bname bkids)]) [.int .i64 5, .int .i64 n, .string name, .slice (some ⟨blk, 0, none⟩) 2 p] := fun m => exT_mk m (d + 1) 5 n name _ _ ⟨by omega, by omega⟩ hn hnm (h3 m)
  have ha : ∀ m, (exT m (d + 1 + 1)).rep w lo B (Ex.mk aop an aname akids) [.int .i64 aop, .int .i64 an, .string aname, .slice A3 akids.length p3] := fun m => exT_le m (Nat.le_succ _) (ha' m)
  have hb : ∀ m, (exT m (d + 1 + 1)).rep w lo B (Ex.mk bop bn bname bkids) [.int .i64 bop, .int .i64 bn, .string bname, .slice A4 bkids.length p4] := fun m => exT_le m (Nat.le_succ _) (hb' m)
  have ska : Sl false (exS false d) w lo B akids (.slice A3 akids.length p3) := (exT_kids d (ha' false)).exS
  have skb : Sl false (exS false d) w lo B bkids (.slice A4 bkids.length p4) := (exT_kids d (hb' false)).exS
  have h3s : Sl false (exS false (d + 1)) w lo B [(Ex.mk aop an aname akids), (Ex.mk bop bn bname bkids)] (.slice (some ⟨blk, 0, none⟩) 2 p) := (h3 false).exS
  clear ha' hb' h3 HL1 HL2
  obtain ⟨T, hTT⟩ : ∃ T, foldTwo 5 (Ex.mk aop an aname akids) (Ex.mk bop bn bname bkids) (Ex.mk 5 n name [(Ex.mk aop an aname akids), (Ex.mk bop bn bname bkids)]) = T := ⟨_, rfl⟩
  rw [hTT]
  have HTT := Lib.hid hTT
  clear hTT
  have hblk : blk < w.heap.size := by omega
  obtain ⟨vA0, hvA0⟩ : ∃ v, isN (Ex.mk aop an aname akids) 0 = v := ⟨_, rfl⟩
  obtain ⟨vA1, hvA1⟩ : ∃ v, isN (Ex.mk aop an aname akids) 1 = v := ⟨_, rfl⟩
  obtain ⟨vB0, hvB0⟩ : ∃ v, isN (Ex.mk bop bn bname bkids) 0 = v := ⟨_, rfl⟩
  obtain ⟨vB1, hvB1⟩ : ∃ v, isN (Ex.mk bop bn bname bkids) 1 = v := ⟨_, rfl⟩
  obtain ⟨vSA, hvSA⟩ : ∃ v, safeE 6 (Ex.mk aop an aname akids) = v := ⟨_, rfl⟩
  obtain ⟨vSB, hvSB⟩ : ∃ v, safeE 6 (Ex.mk bop bn bname bkids) = v := ⟨_, rfl⟩
  have HA0 := Lib.hid hvA0
  have HA1 := Lib.hid hvA1
  have HB0 := Lib.hid hvB0
  have HB1 := Lib.hid hvB1
  have HSA := Lib.hid hvSA
  have HSB := Lib.hid hvSB
  clear hvA0 hvA1 hvB0 hvB1 hvSA hvSB

  have HT := Lib.hid (fun (w9 : World) (h9 : Below w.heap.size w w9) => ht.below h9 (Nat.le_refl _))
  clear ht
  have HBSA : Hid (safB (Ex.mk aop an aname akids) = vSA) := by show _ = _; unfold safB; rw [va, HSA.out]; rfl
  have HBSB : Hid (safB (Ex.mk bop bn bname bkids) = vSB) := by show _ = _; unfold safB; rw [vb, HSB.out]; rfl
  replace va := Lib.hid va
  replace vb := Lib.hid vb
  clear fa fb
  have hw : Below w.heap.size w ((w.alloc (.cells #[.int .i64 5, .int .i64 n, .string name, .slice (some ⟨blk, 0, none⟩) 2 p] 25)).alloc (.cells #[.int .i64 0, .int .i64 0, .string ⟨#[]⟩, .slice none 0 0] 25)) := ((Below.refl _ _).alloc (Nat.le_refl _) _).alloc (by simp) _
  have RE : Row _ w.heap.size 25 #[.int .i64 5, .int .i64 n, .string name, .slice (some ⟨blk, 0, none⟩) 2 p] := (Row.new w _ _).alloc (.cells #[.int .i64 0, .int .i64 0, .string ⟨#[]⟩, .slice none 0 0] 25)
  have RR : Row ((w.alloc (.cells #[.int .i64 5, .int .i64 n, .string name, .slice (some ⟨blk, 0, none⟩) 2 p] 25)).alloc (.cells #[.int .i64 0, .int .i64 0, .string ⟨#[]⟩, .slice none 0 0] 25)) (w.heap.size + 1) 25 #[.int .i64 0, .int .i64 0, .string ⟨#[]⟩, .slice none 0 0] := by simpa using Row.new (w.alloc (.cells #[.int .i64 5, .int .i64 n, .string name, .slice (some ⟨blk, 0, none⟩) 2 p] 25)) 25 #[.int .i64 0, .int .i64 0, .string ⟨#[]⟩, .slice none 0 0]
  obtain ⟨k0, k1, k2, k3, k4, k5, k6, k7⟩ := kids8 hw hblk c0 c1 c2 c3 c4 c5 c6 c7
  have g_0 := RE.cell 3
  obtain ⟨L, hL⟩ : ∃ L : List (Addr × Value), [(⟨w.heap.size, 3, none⟩, .slice (some ⟨blk, 0, none⟩) 2 p), (⟨blk, 0, none⟩, .int .i64 aop), (⟨blk, 1, none⟩, .int .i64 an), (⟨blk, 2, none⟩, .string aname), (⟨blk, 3, none⟩, .slice A3 akids.length p3), (⟨blk, 4, none⟩, .int .i64 bop), (⟨blk, 5, none⟩, .int .i64 bn), (⟨blk, 6, none⟩, .string bname), (⟨blk, 7, none⟩, .slice A4 bkids.length p4)] = L := ⟨_, rfl⟩
  have HG : Hid (Has ((w.alloc (.cells #[.int .i64 5, .int .i64 n, .string name, .slice (some ⟨blk, 0, none⟩) 2 p] 25)).alloc (.cells #[.int .i64 0, .int .i64 0, .string ⟨#[]⟩, .slice none 0 0] 25)) L) := by
    subst hL
    exact .cons (RE.cell 3) (.cons k0 (.cons k1 (.cons k2 (.cons k3 (.cons k4 (.cons k5 (.cons k6 (.cons k7 .nil))))))))
  have HLT : Hid (∀ x ∈ L, x.1.block < w.heap.size + 2) := by
    subst hL
    exact lcons (by dsimp only; omega) (lcons (by dsimp only; omega) (lcons (by dsimp only; omega) (lcons (by dsimp only; omega) (lcons (by dsimp only; omega) (lcons (by dsimp only; omega) (lcons (by dsimp only; omega) (lcons (by dsimp only; omega) (lcons (by dsimp only; omega) (lnil)))))))))
  replace hL := Lib.hid hL.symm
  have HL := hL
  clear hL
  clear c0 c1 c2 c3 c4 c5 c6 c7
  go_enter Tryd.func47, Tryd.ntmps47
  go_wp2_with fail
  go_cut [3, 4] (fun s3 s4 wx => ∃ ga gb : Nat, s3 = .pointer (some ⟨ga, 0, none⟩) ∧ s4 = .pointer (some ⟨gb, 0, none⟩) ∧ Row wx ga 25 #[.int .i64 aop, .int .i64 an, .string aname, .slice A3 akids.length p3] ∧ Row wx gb 25 #[.int .i64 bop, .int .i64 bn, .string bname, .slice A4 bkids.length p4] ∧ w.heap.size + 1 < ga ∧ w.heap.size + 1 < gb ∧ Below (w.heap.size + 2) ((w.alloc (.cells #[.int .i64 5, .int .i64 n, .string name, .slice (some ⟨blk, 0, none⟩) 2 p] 25)).alloc (.cells #[.int .i64 0, .int .i64 0, .string ⟨#[]⟩, .slice none 0 0] 25)) wx)
  case first =>
   refine wp_region_held_drew (S := fun w' => Has w' L) (by kernel_rfl) ?_ (fun hHeld => ?_)
   · exact HG.out
   have udd : Below (w.heap.size + 2) ((w.alloc (.cells #[.int .i64 5, .int .i64 n, .string name, .slice (some ⟨blk, 0, none⟩) 2 p] 25)).alloc (.cells #[.int .i64 0, .int .i64 0, .string ⟨#[]⟩, .slice none 0 0] 25)) ((w.alloc (.cells #[.int .i64 5, .int .i64 n, .string name, .slice (some ⟨blk, 0, none⟩) 2 p] 25)).alloc (.cells #[.int .i64 0, .int .i64 0, .string ⟨#[]⟩, .slice none 0 0] 25)).drew := (Below.refl _ _).drew
   have hsd : w.heap.size + 2 ≤ ((w.alloc (.cells #[.int .i64 5, .int .i64 n, .string name, .slice (some ⟨blk, 0, none⟩) 2 p] 25)).alloc (.cells #[.int .i64 0, .int .i64 0, .string ⟨#[]⟩, .slice none 0 0] 25)).drew.heap.size := by show _ ≤ ((w.alloc (.cells #[.int .i64 5, .int .i64 n, .string name, .slice (some ⟨blk, 0, none⟩) 2 p] 25)).alloc (.cells #[.int .i64 0, .int .i64 0, .string ⟨#[]⟩, .slice none 0 0] 25)).heap.size; simp
   have h : Has ((w.alloc (.cells #[.int .i64 5, .int .i64 n, .string name, .slice (some ⟨blk, 0, none⟩) 2 p] 25)).alloc (.cells #[.int .i64 0, .int .i64 0, .string ⟨#[]⟩, .slice none 0 0] 25)).drew L := HG.out
   generalize ((w.alloc (.cells #[.int .i64 5, .int .i64 n, .string name, .slice (some ⟨blk, 0, none⟩) 2 p] 25)).alloc (.cells #[.int .i64 0, .int .i64 0, .string ⟨#[]⟩, .slice none 0 0] 25)).drew = wd at udd hsd hHeld h ⊢
   have h9 := h.nine HL.out
   dsimp only at h9
   obtain ⟨h_0, h_1, h_2, h_3, h_4, h_5, h_6, h_7, h_8⟩ := h9
   refine reg_take (i := 0) (v := ?v1) rfl (by kernel_rfl) (by kernel_rfl) (by kernel_rfl) (fun _ _ _ h => h) (Or.inl ⟨by kernel_rfl, ?h1⟩) (by assumption) ?r1
   case h1 => (intro w hSw; have hSw := Has.nine hSw HL.out; dsimp only at hSw; go_simp; try with_reducible rfl)
   try simp only [Act.put, List.setIfInBounds_toArray, List.set_cons_zero, List.set_cons_succ]
   refine reg_take (i := 1) (v := ?v2) rfl (by kernel_rfl) (by kernel_rfl) (by kernel_rfl) (fun _ _ _ h => h) (Or.inl ⟨by kernel_rfl, ?h2⟩) (by assumption) ?r2
   case h2 => (intro w hSw; have hSw := Has.nine hSw HL.out; dsimp only at hSw; go_simp; try with_reducible rfl)
   try simp only [Act.put, List.setIfInBounds_toArray, List.set_cons_zero, List.set_cons_succ]
   refine reg_take (i := 2) (v := ?v3) rfl (by kernel_rfl) (by kernel_rfl) (by kernel_rfl) (fun _ _ _ h => h) (Or.inl ⟨by kernel_rfl, ?h3⟩) (by assumption) ?r3
   case h3 => (intro w hSw; have hSw := Has.nine hSw HL.out; dsimp only at hSw; go_simp; try with_reducible rfl)
   try simp only [Act.put, List.setIfInBounds_toArray, List.set_cons_zero, List.set_cons_succ]
   refine reg_take (i := 3) (v := ?v4) rfl (by kernel_rfl) (by kernel_rfl) (by kernel_rfl) (fun _ _ _ h => h) (Or.inl ⟨by kernel_rfl, ?h4⟩) (by assumption) ?r4
   case h4 => (intro w hSw; have hSw := Has.nine hSw HL.out; dsimp only at hSw; go_simp; try with_reducible rfl)
   try simp only [Act.put, List.setIfInBounds_toArray, List.set_cons_zero, List.set_cons_succ]
   refine reg_take (i := 4) (v := ?v5) rfl (by kernel_rfl) (by kernel_rfl) (by kernel_rfl) (fun _ _ _ h => h) (Or.inl ⟨by kernel_rfl, ?h5⟩) (by assumption) ?r5
   case h5 => (intro w hSw; have hSw := Has.nine hSw HL.out; dsimp only at hSw; go_simp; try with_reducible rfl)
   try simp only [Act.put, List.setIfInBounds_toArray, List.set_cons_zero, List.set_cons_succ]
   refine reg_take (i := 5) (v := ?v6) rfl (by kernel_rfl) (by kernel_rfl) (by kernel_rfl) (fun _ _ _ h => h) (Or.inl ⟨by kernel_rfl, ?h6⟩) (by assumption) ?r6
   case h6 => (intro w hSw; have hSw := Has.nine hSw HL.out; dsimp only at hSw; go_simp; try with_reducible rfl)
   try simp only [Act.put, List.setIfInBounds_toArray, List.set_cons_zero, List.set_cons_succ]
   refine reg_take (i := 6) (v := ?v7) rfl (by kernel_rfl) (by kernel_rfl) (by kernel_rfl) (fun _ _ _ h => h) (Or.inl ⟨by kernel_rfl, ?h7⟩) (by assumption) ?r7
   case h7 => (intro w hSw; have hSw := Has.nine hSw HL.out; dsimp only at hSw; go_simp; try with_reducible rfl)
   try simp only [Act.put, List.setIfInBounds_toArray, List.set_cons_zero, List.set_cons_succ]
   refine reg_take (i := 7) (v := ?v8) rfl (by kernel_rfl) (by kernel_rfl) (by kernel_rfl) (fun _ _ _ h => h) (Or.inl ⟨by kernel_rfl, ?h8⟩) (by assumption) ?r8
   case h8 => (intro w hSw; have hSw := Has.nine hSw HL.out; dsimp only at hSw; go_simp; try with_reducible rfl)
   try simp only [Act.put, List.setIfInBounds_toArray, List.set_cons_zero, List.set_cons_succ]
   refine reg_take (i := 8) (v := ?v9) rfl (by kernel_rfl) (by kernel_rfl) (by kernel_rfl) (fun _ _ _ h => h) (Or.inl ⟨by kernel_rfl, ?h9⟩) (by assumption) ?r9
   case h9 => (intro w hSw; have hSw := Has.nine hSw HL.out; dsimp only at hSw; go_simp; try with_reducible rfl)
   try simp only [Act.put, List.setIfInBounds_toArray, List.set_cons_zero, List.set_cons_succ]
   refine reg_take (i := 9) (v := .int .i64 1) rfl (by kernel_rfl) (by kernel_rfl) (by kernel_rfl) (fun _ _ _ h => h) (Or.inl ⟨by kernel_rfl, ?h10⟩) (by assumption) ?r10
   case h10 => (intro w hSw; have hSw := Has.nine hSw HL.out; dsimp only at hSw; go_simp; try rfl)
   try simp only [Act.put, List.setIfInBounds_toArray, List.set_cons_zero, List.set_cons_succ]
   refine reg_take (i := 10) (v := ?v11) rfl (by kernel_rfl) (by kernel_rfl) (by kernel_rfl) (fun _ _ _ h => h) (Or.inl ⟨by kernel_rfl, ?h11⟩) (by assumption) ?r11
   case h11 => (intro w hSw; have hSw := Has.nine hSw HL.out; dsimp only at hSw; go_simp; try with_reducible rfl)
   try simp only [Act.put, List.setIfInBounds_toArray, List.set_cons_zero, List.set_cons_succ]
   refine reg_take (i := 11) (v := ?v12) rfl (by kernel_rfl) (by kernel_rfl) (by kernel_rfl) (fun _ _ _ h => h) (Or.inl ⟨by kernel_rfl, ?h12⟩) (by assumption) ?r12
   case h12 => (intro w hSw; have hSw := Has.nine hSw HL.out; dsimp only at hSw; go_simp; try with_reducible rfl)
   try simp only [Act.put, List.setIfInBounds_toArray, List.set_cons_zero, List.set_cons_succ]
   refine reg_call2 (i := 12) (j := 13) (by kernel_rfl) rfl rfl (fun K hK => ?_) (fun K hK => ?_)
   · go_simp
     have u1 := (Below.refl _ wd).alloc hsd (.cells #[.int .i64 0, .int .i64 0, .string ⟨#[]⟩, .slice none 0 0] 25)
     refine hK.out _ _ ?_ (fun hHeld => ?_)
     · exact h.below u1 HLT.out
     clear hK K
     try simp only [Act.put, List.setIfInBounds_toArray, List.set_cons_zero, List.set_cons_succ]
     refine reg_call (i := 13) (by kernel_rfl) rfl (fun K hK => ?_)
     go_simp
     have u2 := u1.alloc (by simp; omega) (.cells #[.int .i64 0, .int .i64 0, .string ⟨#[]⟩, .slice none 0 0] 25)
     refine hK.out _ _ ?_ (fun hHeld => ?_)
     · exact h.below u2 HLT.out
     clear hK K
     try simp only [Act.put, List.setIfInBounds_toArray, List.set_cons_zero, List.set_cons_succ]
     have q0 : Row _ wd.heap.size 25 #[.int .i64 0, .int .i64 0, .string ⟨#[]⟩, .slice none 0 0] := (Row.new wd _ _).alloc (.cells #[.int .i64 0, .int .i64 0, .string ⟨#[]⟩, .slice none 0 0] 25)
     have q1 : Row ((wd.alloc (.cells #[.int .i64 0, .int .i64 0, .string ⟨#[]⟩, .slice none 0 0] 25)).alloc (.cells #[.int .i64 0, .int .i64 0, .string ⟨#[]⟩, .slice none 0 0] 25)) (wd.heap.size + 1) 25 #[.int .i64 0, .int .i64 0, .string ⟨#[]⟩, .slice none 0 0] := by simpa using Row.new (wd.alloc (.cells #[.int .i64 0, .int .i64 0, .string ⟨#[]⟩, .slice none 0 0] 25)) 25 #[.int .i64 0, .int .i64 0, .string ⟨#[]⟩, .slice none 0 0]
     generalize ((wd.alloc (.cells #[.int .i64 0, .int .i64 0, .string ⟨#[]⟩, .slice none 0 0] 25)).alloc (.cells #[.int .i64 0, .int .i64 0, .string ⟨#[]⟩, .slice none 0 0] 25)) = wv at u2 q0 q1 hHeld ⊢
     clear u1
     obtain ⟨m0, m1, m2, m3, n0, n1, n2, n3⟩ := cells8 q0
     refine reg_call (i := 14) (by kernel_rfl) rfl (fun K hK => ?_)
     go_simp
     have u4 := ((((u2.setCell (p := ⟨wd.heap.size, 0, none⟩) hsd (.int .i64 aop)).setCell (p := ⟨wd.heap.size, 1, none⟩) hsd (.int .i64 an)).setCell (p := ⟨wd.heap.size, 2, none⟩) hsd (.string aname)).setCell (p := ⟨wd.heap.size, 3, none⟩) hsd (.slice A3 akids.length p3))
     refine hK.out _ _ ?_ (fun hHeld => ?_)
     · exact h.below u4 HLT.out
     clear hK K
     try simp only [Act.put, List.setIfInBounds_toArray, List.set_cons_zero, List.set_cons_succ]
     have r0 : Row _ (wd.heap.size) 25 #[.int .i64 aop, .int .i64 an, .string aname, .slice A3 akids.length p3] := (((q0.set_ 0 (.int .i64 aop)).set_ 1 (.int .i64 an)).set_ 2 (.string aname)).set_ 3 (.slice A3 akids.length p3)
     have hne : wd.heap.size + 1 ≠ wd.heap.size := by omega
     have r1 := ((((q1.far (p := ⟨wd.heap.size, 0, none⟩) hne (.int .i64 aop)).far (p := ⟨wd.heap.size, 1, none⟩) hne (.int .i64 an)).far (p := ⟨wd.heap.size, 2, none⟩) hne (.string aname)).far (p := ⟨wd.heap.size, 3, none⟩) hne (.slice A3 akids.length p3))
     generalize ((((wv.setCell ⟨wd.heap.size, 0, none⟩ (.int .i64 aop)).setCell ⟨wd.heap.size, 1, none⟩ (.int .i64 an)).setCell ⟨wd.heap.size, 2, none⟩ (.string aname)).setCell ⟨wd.heap.size, 3, none⟩ (.slice A3 akids.length p3)) = wy at u4 r0 r1 hHeld ⊢
     clear u2 m0 m1 m2 m3 n0 n1 n2 n3
     obtain ⟨m0, m1, m2, m3, n0, n1, n2, n3⟩ := cells8 r1
     refine reg_call (i := 15) (by kernel_rfl) rfl (fun K hK => ?_)
     go_simp
     have u6 := ((((u4.setCell (p := ⟨wd.heap.size + 1, 0, none⟩) (Nat.le_succ_of_le hsd) (.int .i64 bop)).setCell (p := ⟨wd.heap.size + 1, 1, none⟩) (Nat.le_succ_of_le hsd) (.int .i64 bn)).setCell (p := ⟨wd.heap.size + 1, 2, none⟩) (Nat.le_succ_of_le hsd) (.string bname)).setCell (p := ⟨wd.heap.size + 1, 3, none⟩) (Nat.le_succ_of_le hsd) (.slice A4 bkids.length p4))
     refine hK.out _ _ ?_ (fun hHeld => ?_)
     · exact h.below u6 HLT.out
     clear hK K
     try simp only [Act.put, List.setIfInBounds_toArray, List.set_cons_zero, List.set_cons_succ]
     have t0 : Row _ (wd.heap.size + 1) 25 #[.int .i64 bop, .int .i64 bn, .string bname, .slice A4 bkids.length p4] := (((r1.set_ 0 (.int .i64 bop)).set_ 1 (.int .i64 bn)).set_ 2 (.string bname)).set_ 3 (.slice A4 bkids.length p4)
     replace hne := hne.symm
     have t1 := ((((r0.far (p := ⟨wd.heap.size + 1, 0, none⟩) hne (.int .i64 bop)).far (p := ⟨wd.heap.size + 1, 1, none⟩) hne (.int .i64 bn)).far (p := ⟨wd.heap.size + 1, 2, none⟩) hne (.string bname)).far (p := ⟨wd.heap.size + 1, 3, none⟩) hne (.slice A4 bkids.length p4))
     refine wpAnyH_done (by kernel_rfl) ?_ _
     go_wp2_with fail
     go_meet
     case rel => exact ⟨_, _, rfl, rfl, t1, t0, by omega, by omega, udd.trans u6⟩
   · go_simp
     have u1 := (Below.refl _ wd).alloc hsd (.cells #[.int .i64 0, .int .i64 0, .string ⟨#[]⟩, .slice none 0 0] 25)
     refine hK.out _ _ ?_ (fun hHeld => ?_)
     · exact h.below u1 HLT.out
     clear hK K
     try simp only [Act.put, List.setIfInBounds_toArray, List.set_cons_zero, List.set_cons_succ]
     refine reg_call (i := 12) (by kernel_rfl) rfl (fun K hK => ?_)
     go_simp
     have u2 := u1.alloc (by simp; omega) (.cells #[.int .i64 0, .int .i64 0, .string ⟨#[]⟩, .slice none 0 0] 25)
     refine hK.out _ _ ?_ (fun hHeld => ?_)
     · exact h.below u2 HLT.out
     clear hK K
     try simp only [Act.put, List.setIfInBounds_toArray, List.set_cons_zero, List.set_cons_succ]
     have q0 : Row _ wd.heap.size 25 #[.int .i64 0, .int .i64 0, .string ⟨#[]⟩, .slice none 0 0] := (Row.new wd _ _).alloc (.cells #[.int .i64 0, .int .i64 0, .string ⟨#[]⟩, .slice none 0 0] 25)
     have q1 : Row ((wd.alloc (.cells #[.int .i64 0, .int .i64 0, .string ⟨#[]⟩, .slice none 0 0] 25)).alloc (.cells #[.int .i64 0, .int .i64 0, .string ⟨#[]⟩, .slice none 0 0] 25)) (wd.heap.size + 1) 25 #[.int .i64 0, .int .i64 0, .string ⟨#[]⟩, .slice none 0 0] := by simpa using Row.new (wd.alloc (.cells #[.int .i64 0, .int .i64 0, .string ⟨#[]⟩, .slice none 0 0] 25)) 25 #[.int .i64 0, .int .i64 0, .string ⟨#[]⟩, .slice none 0 0]
     generalize ((wd.alloc (.cells #[.int .i64 0, .int .i64 0, .string ⟨#[]⟩, .slice none 0 0] 25)).alloc (.cells #[.int .i64 0, .int .i64 0, .string ⟨#[]⟩, .slice none 0 0] 25)) = wv at u2 q0 q1 hHeld ⊢
     clear u1
     obtain ⟨m0, m1, m2, m3, n0, n1, n2, n3⟩ := cells8 q1
     refine reg_call (i := 14) (by kernel_rfl) rfl (fun K hK => ?_)
     go_simp
     have u4 := ((((u2.setCell (p := ⟨wd.heap.size + 1, 0, none⟩) (Nat.le_succ_of_le hsd) (.int .i64 aop)).setCell (p := ⟨wd.heap.size + 1, 1, none⟩) (Nat.le_succ_of_le hsd) (.int .i64 an)).setCell (p := ⟨wd.heap.size + 1, 2, none⟩) (Nat.le_succ_of_le hsd) (.string aname)).setCell (p := ⟨wd.heap.size + 1, 3, none⟩) (Nat.le_succ_of_le hsd) (.slice A3 akids.length p3))
     refine hK.out _ _ ?_ (fun hHeld => ?_)
     · exact h.below u4 HLT.out
     clear hK K
     try simp only [Act.put, List.setIfInBounds_toArray, List.set_cons_zero, List.set_cons_succ]
     have r0 : Row _ (wd.heap.size + 1) 25 #[.int .i64 aop, .int .i64 an, .string aname, .slice A3 akids.length p3] := (((q1.set_ 0 (.int .i64 aop)).set_ 1 (.int .i64 an)).set_ 2 (.string aname)).set_ 3 (.slice A3 akids.length p3)
     have hne : wd.heap.size ≠ wd.heap.size + 1 := by omega
     have r1 := ((((q0.far (p := ⟨wd.heap.size + 1, 0, none⟩) hne (.int .i64 aop)).far (p := ⟨wd.heap.size + 1, 1, none⟩) hne (.int .i64 an)).far (p := ⟨wd.heap.size + 1, 2, none⟩) hne (.string aname)).far (p := ⟨wd.heap.size + 1, 3, none⟩) hne (.slice A3 akids.length p3))
     generalize ((((wv.setCell ⟨wd.heap.size + 1, 0, none⟩ (.int .i64 aop)).setCell ⟨wd.heap.size + 1, 1, none⟩ (.int .i64 an)).setCell ⟨wd.heap.size + 1, 2, none⟩ (.string aname)).setCell ⟨wd.heap.size + 1, 3, none⟩ (.slice A3 akids.length p3)) = wy at u4 r0 r1 hHeld ⊢
     clear u2 m0 m1 m2 m3 n0 n1 n2 n3
     obtain ⟨m0, m1, m2, m3, n0, n1, n2, n3⟩ := cells8 r1
     refine reg_call (i := 15) (by kernel_rfl) rfl (fun K hK => ?_)
     go_simp
     have u6 := ((((u4.setCell (p := ⟨wd.heap.size, 0, none⟩) hsd (.int .i64 bop)).setCell (p := ⟨wd.heap.size, 1, none⟩) hsd (.int .i64 bn)).setCell (p := ⟨wd.heap.size, 2, none⟩) hsd (.string bname)).setCell (p := ⟨wd.heap.size, 3, none⟩) hsd (.slice A4 bkids.length p4))
     refine hK.out _ _ ?_ (fun hHeld => ?_)
     · exact h.below u6 HLT.out
     clear hK K
     try simp only [Act.put, List.setIfInBounds_toArray, List.set_cons_zero, List.set_cons_succ]
     have t0 : Row _ (wd.heap.size) 25 #[.int .i64 bop, .int .i64 bn, .string bname, .slice A4 bkids.length p4] := (((r1.set_ 0 (.int .i64 bop)).set_ 1 (.int .i64 bn)).set_ 2 (.string bname)).set_ 3 (.slice A4 bkids.length p4)
     replace hne := hne.symm
     have t1 := ((((r0.far (p := ⟨wd.heap.size, 0, none⟩) hne (.int .i64 bop)).far (p := ⟨wd.heap.size, 1, none⟩) hne (.int .i64 bn)).far (p := ⟨wd.heap.size, 2, none⟩) hne (.string bname)).far (p := ⟨wd.heap.size, 3, none⟩) hne (.slice A4 bkids.length p4))
     refine wpAnyH_done (by kernel_rfl) ?_ _
     go_wp2_with fail
     go_meet
     case rel => exact ⟨_, _, rfl, rfl, t1, t0, by omega, by omega, udd.trans u6⟩
  case rest =>
   obtain ⟨ga, gb, rfl, rfl, RA, RB, hga, hgb, hbc⟩ := hcut
   replace hw : Below w.heap.size w wc := hw.trans (hbc.mono (by omega))
   replace RE := RE.below hbc (by omega)
   replace RR := RR.below hbc (by omega)
   clear hbc HG HL HLT g_0 k0 k1 k2 k3 k4 k5 k6 k7
   by_cases qa : aop = 1
   case neg =>
    have qa' : (aop == 1) = false := by simpa using qa
    have HN : Hid (numB 5 (Ex.mk aop an aname akids) (Ex.mk bop bn bname bkids) = false) := by show _ = _; simp [numB, Ex.op, qa]
    clear qa
    obtain ⟨y0, y1, y2, y3, y4, y5, y6, y7, y8, y9, ya, yb⟩ := cells12 RE RA RB
    go_wp2_with fail
    refine (impl_isNum bop bn bname (.slice A4 bkids.length p4) 1 _ bkids ⟨_, _, rfl⟩).mono ?_
    rw [HB1.out]
    rintro e w6 ⟨rfl, x6⟩
    clear y0 y1 y2 y3 y4 y5 y6 y7 y8 y9 ya yb
    replace hw := hw.trans (x6.mono hw.size)
    replace RE := RE.below x6 RE.lt
    replace RR := RR.below x6 RR.lt
    replace RA := RA.below x6 RA.lt
    replace RB := RB.below x6 RB.lt
    cases vB1
    case false =>
     obtain ⟨y0, y1, y2, y3, y4, y5, y6, y7, y8, y9, ya, yb⟩ := cells12 RE RA RB
     go_wp2_with fail
     refine (impl_isNum aop an aname (.slice A3 akids.length p3) 1 _ akids ⟨_, _, rfl⟩).mono ?_
     rw [HA1.out]
     rintro e w7 ⟨rfl, x7⟩
     clear y0 y1 y2 y3 y4 y5 y6 y7 y8 y9 ya yb
     replace hw := hw.trans (x7.mono hw.size)
     replace RE := RE.below x7 RE.lt
     replace RR := RR.below x7 RR.lt
     replace RA := RA.below x7 RA.lt
     replace RB := RB.below x7 RB.lt
     cases vA1
     case false =>
      obtain ⟨y0, y1, y2, y3, y4, y5, y6, y7, y8, y9, ya, yb⟩ := cells12 RE RA RB
      go_wp2_with fail
      refine (impl_isNum bop bn bname (.slice A4 bkids.length p4) 0 _ bkids ⟨_, _, rfl⟩).mono ?_
      rw [HB0.out]
      rintro e w8 ⟨rfl, x8⟩
      clear y0 y1 y2 y3 y4 y5 y6 y7 y8 y9 ya yb
      replace hw := hw.trans (x8.mono hw.size)
      replace RE := RE.below x8 RE.lt
      replace RR := RR.below x8 RR.lt
      replace RA := RA.below x8 RA.lt
      replace RB := RB.below x8 RB.lt
      cases vB0
      case false =>
       obtain ⟨y0, y1, y2, y3, y4, y5, y6, y7, y8, y9, ya, yb⟩ := cells12 RE RA RB
       go_wp2_with fail
       refine (impl_isNum aop an aname (.slice A3 akids.length p3) 0 _ akids ⟨_, _, rfl⟩).mono ?_
       rw [HA0.out]
       rintro e w9 ⟨rfl, x9⟩
       clear y0 y1 y2 y3 y4 y5 y6 y7 y8 y9 ya yb
       replace hw := hw.trans (x9.mono hw.size)
       replace RE := RE.below x9 RE.lt
       replace RR := RR.below x9 RR.lt
       replace RA := RA.below x9 RA.lt
       replace RB := RB.below x9 RB.lt
       cases vA0
       case false =>
        obtain ⟨s0, s1, s2, s3, f0, f1, f2, f3⟩ := cells8 RR
        obtain ⟨y0, y1, y2, y3, y4, y5, y6, y7, y8, y9, ya, yb⟩ := cells12 RE RA RB
        have F := leaf_fin (f := T) hw hB (Nat.le_succ _) RR he (by rw [← HTT.out]; unfold foldTwo; simp [HN.out, HB1.out, HA1.out, HB0.out, HA0.out])
        go_wp2_with fail
        refine bodyPost_ret (by simp [results, Tryd.results47, go_sem, s0, s1, s2, s3]) rfl F.out
       case true =>
        obtain ⟨y0, y1, y2, y3, y4, y5, y6, y7, y8, y9, ya, yb⟩ := cells12 RE RA RB
        go_wp2_with fail
        refine (impl_SafeExpr d bop bn bname bkids (.slice A4 bkids.length p4) _ lo B (Nat.le_trans hB hw.size) ob nb sb (skb.below hw hB) (HT.out _ hw)).mono ?_
        rw [HBSB.out]
        rintro e w10 ⟨rfl, x10⟩
        clear y0 y1 y2 y3 y4 y5 y6 y7 y8 y9 ya yb
        replace hw := hw.trans (x10.mono hw.size)
        replace RE := RE.below x10 RE.lt
        replace RR := RR.below x10 RR.lt
        replace RA := RA.below x10 RA.lt
        replace RB := RB.below x10 RB.lt
        cases vSB
        case false =>
         obtain ⟨s0, s1, s2, s3, f0, f1, f2, f3⟩ := cells8 RR
         obtain ⟨y0, y1, y2, y3, y4, y5, y6, y7, y8, y9, ya, yb⟩ := cells12 RE RA RB
         have F := leaf_fin (f := T) hw hB (Nat.le_succ _) RR he (by rw [← HTT.out]; unfold foldTwo; simp [HN.out, HB1.out, HA1.out, HB0.out, HA0.out, HSB.out])
         go_wp2_with fail
         refine bodyPost_ret (by simp [results, Tryd.results47, go_sem, s0, s1, s2, s3]) rfl F.out
        case true =>
         obtain ⟨y0, y1, y2, y3, y4, y5, y6, y7, y8, y9, ya, yb⟩ := cells12 RE RA RB
         go_wp2_with fail
         refine (impl_num (d + 1) (0) _ ⟨by omega, by omega⟩).mono ?_
         rintro e w11 ⟨An, cn, rfl, hnr, x11⟩
         clear y0 y1 y2 y3 y4 y5 y6 y7 y8 y9 ya yb
         replace hw := hw.trans (x11.mono hw.size)
         replace RE := RE.below x11 RE.lt
         replace RR := RR.below x11 RR.lt
         replace RA := RA.below x11 RA.lt
         replace RB := RB.below x11 RB.lt
         obtain ⟨s0, s1, s2, s3, f0, f1, f2, f3⟩ := cells8 RR
         obtain ⟨y0, y1, y2, y3, y4, y5, y6, y7, y8, y9, ya, yb⟩ := cells12 RE RA RB
         have F := leaf_fin (f := T) hw hB (Nat.le_succ _) RR (hnr w lo B) (show T = exN1 (0) by rw [← HTT.out]; unfold foldTwo; simp [HN.out, HB1.out, HA1.out, HB0.out, HA0.out, HSB.out])
         go_wp2_with fail
         refine bodyPost_ret (by simp [results, Tryd.results47, go_sem, s0, s1, s2, s3]) rfl F.out
      case true =>
       obtain ⟨y0, y1, y2, y3, y4, y5, y6, y7, y8, y9, ya, yb⟩ := cells12 RE RA RB
       go_wp2_with fail
       refine (impl_SafeExpr d aop an aname akids (.slice A3 akids.length p3) _ lo B (Nat.le_trans hB hw.size) oa na sa (ska.below hw hB) (HT.out _ hw)).mono ?_
       rw [HBSA.out]
       rintro e w9 ⟨rfl, x9⟩
       clear y0 y1 y2 y3 y4 y5 y6 y7 y8 y9 ya yb
       replace hw := hw.trans (x9.mono hw.size)
       replace RE := RE.below x9 RE.lt
       replace RR := RR.below x9 RR.lt
       replace RA := RA.below x9 RA.lt
       replace RB := RB.below x9 RB.lt
       cases vSA
       case false =>
        obtain ⟨y0, y1, y2, y3, y4, y5, y6, y7, y8, y9, ya, yb⟩ := cells12 RE RA RB
        go_wp2_with fail
        refine (impl_isNum aop an aname (.slice A3 akids.length p3) 0 _ akids ⟨_, _, rfl⟩).mono ?_
        rw [HA0.out]
        rintro e w10 ⟨rfl, x10⟩
        clear y0 y1 y2 y3 y4 y5 y6 y7 y8 y9 ya yb
        replace hw := hw.trans (x10.mono hw.size)
        replace RE := RE.below x10 RE.lt
        replace RR := RR.below x10 RR.lt
        replace RA := RA.below x10 RA.lt
        replace RB := RB.below x10 RB.lt
        cases vA0
        case false =>
         obtain ⟨s0, s1, s2, s3, f0, f1, f2, f3⟩ := cells8 RR
         obtain ⟨y0, y1, y2, y3, y4, y5, y6, y7, y8, y9, ya, yb⟩ := cells12 RE RA RB
         have F := leaf_fin (f := T) hw hB (Nat.le_succ _) RR he (by rw [← HTT.out]; unfold foldTwo; simp [HN.out, HB1.out, HA1.out, HB0.out, HSA.out, HA0.out])
         go_wp2_with fail
         refine bodyPost_ret (by simp [results, Tryd.results47, go_sem, s0, s1, s2, s3]) rfl F.out
        case true =>
         obtain ⟨y0, y1, y2, y3, y4, y5, y6, y7, y8, y9, ya, yb⟩ := cells12 RE RA RB
         go_wp2_with fail
         refine (impl_SafeExpr d bop bn bname bkids (.slice A4 bkids.length p4) _ lo B (Nat.le_trans hB hw.size) ob nb sb (skb.below hw hB) (HT.out _ hw)).mono ?_
         rw [HBSB.out]
         rintro e w11 ⟨rfl, x11⟩
         clear y0 y1 y2 y3 y4 y5 y6 y7 y8 y9 ya yb
         replace hw := hw.trans (x11.mono hw.size)
         replace RE := RE.below x11 RE.lt
         replace RR := RR.below x11 RR.lt
         replace RA := RA.below x11 RA.lt
         replace RB := RB.below x11 RB.lt
         cases vSB
         case false =>
          obtain ⟨s0, s1, s2, s3, f0, f1, f2, f3⟩ := cells8 RR
          obtain ⟨y0, y1, y2, y3, y4, y5, y6, y7, y8, y9, ya, yb⟩ := cells12 RE RA RB
          have F := leaf_fin (f := T) hw hB (Nat.le_succ _) RR he (by rw [← HTT.out]; unfold foldTwo; simp [HN.out, HB1.out, HA1.out, HB0.out, HSA.out, HA0.out, HSB.out])
          go_wp2_with fail
          refine bodyPost_ret (by simp [results, Tryd.results47, go_sem, s0, s1, s2, s3]) rfl F.out
         case true =>
          obtain ⟨y0, y1, y2, y3, y4, y5, y6, y7, y8, y9, ya, yb⟩ := cells12 RE RA RB
          go_wp2_with fail
          refine (impl_num (d + 1) (0) _ ⟨by omega, by omega⟩).mono ?_
          rintro e w12 ⟨An, cn, rfl, hnr, x12⟩
          clear y0 y1 y2 y3 y4 y5 y6 y7 y8 y9 ya yb
          replace hw := hw.trans (x12.mono hw.size)
          replace RE := RE.below x12 RE.lt
          replace RR := RR.below x12 RR.lt
          replace RA := RA.below x12 RA.lt
          replace RB := RB.below x12 RB.lt
          obtain ⟨s0, s1, s2, s3, f0, f1, f2, f3⟩ := cells8 RR
          obtain ⟨y0, y1, y2, y3, y4, y5, y6, y7, y8, y9, ya, yb⟩ := cells12 RE RA RB
          have F := leaf_fin (f := T) hw hB (Nat.le_succ _) RR (hnr w lo B) (show T = exN1 (0) by rw [← HTT.out]; unfold foldTwo; simp [HN.out, HB1.out, HA1.out, HB0.out, HSA.out, HA0.out, HSB.out])
          go_wp2_with fail
          refine bodyPost_ret (by simp [results, Tryd.results47, go_sem, s0, s1, s2, s3]) rfl F.out
       case true =>
        obtain ⟨y0, y1, y2, y3, y4, y5, y6, y7, y8, y9, ya, yb⟩ := cells12 RE RA RB
        go_wp2_with fail
        refine (impl_num (d + 1) (0) _ ⟨by omega, by omega⟩).mono ?_
        rintro e w10 ⟨An, cn, rfl, hnr, x10⟩
        clear y0 y1 y2 y3 y4 y5 y6 y7 y8 y9 ya yb
        replace hw := hw.trans (x10.mono hw.size)
        replace RE := RE.below x10 RE.lt
        replace RR := RR.below x10 RR.lt
        replace RA := RA.below x10 RA.lt
        replace RB := RB.below x10 RB.lt
        obtain ⟨s0, s1, s2, s3, f0, f1, f2, f3⟩ := cells8 RR
        obtain ⟨y0, y1, y2, y3, y4, y5, y6, y7, y8, y9, ya, yb⟩ := cells12 RE RA RB
        have F := leaf_fin (f := T) hw hB (Nat.le_succ _) RR (hnr w lo B) (show T = exN1 (0) by rw [← HTT.out]; unfold foldTwo; simp [HN.out, HB1.out, HA1.out, HB0.out, HSA.out])
        go_wp2_with fail
        refine bodyPost_ret (by simp [results, Tryd.results47, go_sem, s0, s1, s2, s3]) rfl F.out
     case true =>
      obtain ⟨s0, s1, s2, s3, f0, f1, f2, f3⟩ := cells8 RR
      obtain ⟨y0, y1, y2, y3, y4, y5, y6, y7, y8, y9, ya, yb⟩ := cells12 RE RA RB
      have F := leaf_fin (f := T) hw hB (Nat.le_succ _) RR hb (by rw [← HTT.out]; unfold foldTwo; simp [HN.out, HB1.out, HA1.out])
      go_wp2_with fail
      refine bodyPost_ret (by simp [results, Tryd.results47, go_sem, s0, s1, s2, s3]) rfl F.out
    case true =>
     obtain ⟨s0, s1, s2, s3, f0, f1, f2, f3⟩ := cells8 RR
     obtain ⟨y0, y1, y2, y3, y4, y5, y6, y7, y8, y9, ya, yb⟩ := cells12 RE RA RB
     have F := leaf_fin (f := T) hw hB (Nat.le_succ _) RR ha (by rw [← HTT.out]; unfold foldTwo; simp [HN.out, HB1.out])
     go_wp2_with fail
     refine bodyPost_ret (by simp [results, Tryd.results47, go_sem, s0, s1, s2, s3]) rfl F.out
   by_cases qb : bop = 1
   case neg =>
    have qb' : (bop == 1) = false := by simpa using qb
    have HN : Hid (numB 5 (Ex.mk aop an aname akids) (Ex.mk bop bn bname bkids) = false) := by show _ = _; simp [numB, Ex.op, qb]
    subst qa
    clear qb
    obtain ⟨y0, y1, y2, y3, y4, y5, y6, y7, y8, y9, ya, yb⟩ := cells12 RE RA RB
    go_wp2_with fail
    refine (impl_isNum bop bn bname (.slice A4 bkids.length p4) 1 _ bkids ⟨_, _, rfl⟩).mono ?_
    rw [HB1.out]
    rintro e w6 ⟨rfl, x6⟩
    clear y0 y1 y2 y3 y4 y5 y6 y7 y8 y9 ya yb
    replace hw := hw.trans (x6.mono hw.size)
    replace RE := RE.below x6 RE.lt
    replace RR := RR.below x6 RR.lt
    replace RA := RA.below x6 RA.lt
    replace RB := RB.below x6 RB.lt
    cases vB1
    case false =>
     obtain ⟨y0, y1, y2, y3, y4, y5, y6, y7, y8, y9, ya, yb⟩ := cells12 RE RA RB
     go_wp2_with fail
     refine (impl_isNum 1 an aname (.slice A3 akids.length p3) 1 _ akids ⟨_, _, rfl⟩).mono ?_
     rw [HA1.out]
     rintro e w7 ⟨rfl, x7⟩
     clear y0 y1 y2 y3 y4 y5 y6 y7 y8 y9 ya yb
     replace hw := hw.trans (x7.mono hw.size)
     replace RE := RE.below x7 RE.lt
     replace RR := RR.below x7 RR.lt
     replace RA := RA.below x7 RA.lt
     replace RB := RB.below x7 RB.lt
     cases vA1
     case false =>
      obtain ⟨y0, y1, y2, y3, y4, y5, y6, y7, y8, y9, ya, yb⟩ := cells12 RE RA RB
      go_wp2_with fail
      refine (impl_isNum bop bn bname (.slice A4 bkids.length p4) 0 _ bkids ⟨_, _, rfl⟩).mono ?_
      rw [HB0.out]
      rintro e w8 ⟨rfl, x8⟩
      clear y0 y1 y2 y3 y4 y5 y6 y7 y8 y9 ya yb
      replace hw := hw.trans (x8.mono hw.size)
      replace RE := RE.below x8 RE.lt
      replace RR := RR.below x8 RR.lt
      replace RA := RA.below x8 RA.lt
      replace RB := RB.below x8 RB.lt
      cases vB0
      case false =>
       obtain ⟨y0, y1, y2, y3, y4, y5, y6, y7, y8, y9, ya, yb⟩ := cells12 RE RA RB
       go_wp2_with fail
       refine (impl_isNum 1 an aname (.slice A3 akids.length p3) 0 _ akids ⟨_, _, rfl⟩).mono ?_
       rw [HA0.out]
       rintro e w9 ⟨rfl, x9⟩
       clear y0 y1 y2 y3 y4 y5 y6 y7 y8 y9 ya yb
       replace hw := hw.trans (x9.mono hw.size)
       replace RE := RE.below x9 RE.lt
       replace RR := RR.below x9 RR.lt
       replace RA := RA.below x9 RA.lt
       replace RB := RB.below x9 RB.lt
       cases vA0
       case false =>
        obtain ⟨s0, s1, s2, s3, f0, f1, f2, f3⟩ := cells8 RR
        obtain ⟨y0, y1, y2, y3, y4, y5, y6, y7, y8, y9, ya, yb⟩ := cells12 RE RA RB
        have F := leaf_fin (f := T) hw hB (Nat.le_succ _) RR he (by rw [← HTT.out]; unfold foldTwo; simp [HN.out, HB1.out, HA1.out, HB0.out, HA0.out])
        go_wp2_with fail
        refine bodyPost_ret (by simp [results, Tryd.results47, go_sem, s0, s1, s2, s3]) rfl F.out
       case true =>
        obtain ⟨y0, y1, y2, y3, y4, y5, y6, y7, y8, y9, ya, yb⟩ := cells12 RE RA RB
        go_wp2_with fail
        refine (impl_SafeExpr d bop bn bname bkids (.slice A4 bkids.length p4) _ lo B (Nat.le_trans hB hw.size) ob nb sb (skb.below hw hB) (HT.out _ hw)).mono ?_
        rw [HBSB.out]
        rintro e w10 ⟨rfl, x10⟩
        clear y0 y1 y2 y3 y4 y5 y6 y7 y8 y9 ya yb
        replace hw := hw.trans (x10.mono hw.size)
        replace RE := RE.below x10 RE.lt
        replace RR := RR.below x10 RR.lt
        replace RA := RA.below x10 RA.lt
        replace RB := RB.below x10 RB.lt
        cases vSB
        case false =>
         obtain ⟨s0, s1, s2, s3, f0, f1, f2, f3⟩ := cells8 RR
         obtain ⟨y0, y1, y2, y3, y4, y5, y6, y7, y8, y9, ya, yb⟩ := cells12 RE RA RB
         have F := leaf_fin (f := T) hw hB (Nat.le_succ _) RR he (by rw [← HTT.out]; unfold foldTwo; simp [HN.out, HB1.out, HA1.out, HB0.out, HA0.out, HSB.out])
         go_wp2_with fail
         refine bodyPost_ret (by simp [results, Tryd.results47, go_sem, s0, s1, s2, s3]) rfl F.out
        case true =>
         obtain ⟨y0, y1, y2, y3, y4, y5, y6, y7, y8, y9, ya, yb⟩ := cells12 RE RA RB
         go_wp2_with fail
         refine (impl_num (d + 1) (0) _ ⟨by omega, by omega⟩).mono ?_
         rintro e w11 ⟨An, cn, rfl, hnr, x11⟩
         clear y0 y1 y2 y3 y4 y5 y6 y7 y8 y9 ya yb
         replace hw := hw.trans (x11.mono hw.size)
         replace RE := RE.below x11 RE.lt
         replace RR := RR.below x11 RR.lt
         replace RA := RA.below x11 RA.lt
         replace RB := RB.below x11 RB.lt
         obtain ⟨s0, s1, s2, s3, f0, f1, f2, f3⟩ := cells8 RR
         obtain ⟨y0, y1, y2, y3, y4, y5, y6, y7, y8, y9, ya, yb⟩ := cells12 RE RA RB
         have F := leaf_fin (f := T) hw hB (Nat.le_succ _) RR (hnr w lo B) (show T = exN1 (0) by rw [← HTT.out]; unfold foldTwo; simp [HN.out, HB1.out, HA1.out, HB0.out, HA0.out, HSB.out])
         go_wp2_with fail
         refine bodyPost_ret (by simp [results, Tryd.results47, go_sem, s0, s1, s2, s3]) rfl F.out
      case true =>
       obtain ⟨y0, y1, y2, y3, y4, y5, y6, y7, y8, y9, ya, yb⟩ := cells12 RE RA RB
       go_wp2_with fail
       refine (impl_SafeExpr d 1 an aname akids (.slice A3 akids.length p3) _ lo B (Nat.le_trans hB hw.size) oa na sa (ska.below hw hB) (HT.out _ hw)).mono ?_
       rw [HBSA.out]
       rintro e w9 ⟨rfl, x9⟩
       clear y0 y1 y2 y3 y4 y5 y6 y7 y8 y9 ya yb
       replace hw := hw.trans (x9.mono hw.size)
       replace RE := RE.below x9 RE.lt
       replace RR := RR.below x9 RR.lt
       replace RA := RA.below x9 RA.lt
       replace RB := RB.below x9 RB.lt
       cases vSA
       case false =>
        obtain ⟨y0, y1, y2, y3, y4, y5, y6, y7, y8, y9, ya, yb⟩ := cells12 RE RA RB
        go_wp2_with fail
        refine (impl_isNum 1 an aname (.slice A3 akids.length p3) 0 _ akids ⟨_, _, rfl⟩).mono ?_
        rw [HA0.out]
        rintro e w10 ⟨rfl, x10⟩
        clear y0 y1 y2 y3 y4 y5 y6 y7 y8 y9 ya yb
        replace hw := hw.trans (x10.mono hw.size)
        replace RE := RE.below x10 RE.lt
        replace RR := RR.below x10 RR.lt
        replace RA := RA.below x10 RA.lt
        replace RB := RB.below x10 RB.lt
        cases vA0
        case false =>
         obtain ⟨s0, s1, s2, s3, f0, f1, f2, f3⟩ := cells8 RR
         obtain ⟨y0, y1, y2, y3, y4, y5, y6, y7, y8, y9, ya, yb⟩ := cells12 RE RA RB
         have F := leaf_fin (f := T) hw hB (Nat.le_succ _) RR he (by rw [← HTT.out]; unfold foldTwo; simp [HN.out, HB1.out, HA1.out, HB0.out, HSA.out, HA0.out])
         go_wp2_with fail
         refine bodyPost_ret (by simp [results, Tryd.results47, go_sem, s0, s1, s2, s3]) rfl F.out
        case true =>
         obtain ⟨y0, y1, y2, y3, y4, y5, y6, y7, y8, y9, ya, yb⟩ := cells12 RE RA RB
         go_wp2_with fail
         refine (impl_SafeExpr d bop bn bname bkids (.slice A4 bkids.length p4) _ lo B (Nat.le_trans hB hw.size) ob nb sb (skb.below hw hB) (HT.out _ hw)).mono ?_
         rw [HBSB.out]
         rintro e w11 ⟨rfl, x11⟩
         clear y0 y1 y2 y3 y4 y5 y6 y7 y8 y9 ya yb
         replace hw := hw.trans (x11.mono hw.size)
         replace RE := RE.below x11 RE.lt
         replace RR := RR.below x11 RR.lt
         replace RA := RA.below x11 RA.lt
         replace RB := RB.below x11 RB.lt
         cases vSB
         case false =>
          obtain ⟨s0, s1, s2, s3, f0, f1, f2, f3⟩ := cells8 RR
          obtain ⟨y0, y1, y2, y3, y4, y5, y6, y7, y8, y9, ya, yb⟩ := cells12 RE RA RB
          have F := leaf_fin (f := T) hw hB (Nat.le_succ _) RR he (by rw [← HTT.out]; unfold foldTwo; simp [HN.out, HB1.out, HA1.out, HB0.out, HSA.out, HA0.out, HSB.out])
          go_wp2_with fail
          refine bodyPost_ret (by simp [results, Tryd.results47, go_sem, s0, s1, s2, s3]) rfl F.out
         case true =>
          obtain ⟨y0, y1, y2, y3, y4, y5, y6, y7, y8, y9, ya, yb⟩ := cells12 RE RA RB
          go_wp2_with fail
          refine (impl_num (d + 1) (0) _ ⟨by omega, by omega⟩).mono ?_
          rintro e w12 ⟨An, cn, rfl, hnr, x12⟩
          clear y0 y1 y2 y3 y4 y5 y6 y7 y8 y9 ya yb
          replace hw := hw.trans (x12.mono hw.size)
          replace RE := RE.below x12 RE.lt
          replace RR := RR.below x12 RR.lt
          replace RA := RA.below x12 RA.lt
          replace RB := RB.below x12 RB.lt
          obtain ⟨s0, s1, s2, s3, f0, f1, f2, f3⟩ := cells8 RR
          obtain ⟨y0, y1, y2, y3, y4, y5, y6, y7, y8, y9, ya, yb⟩ := cells12 RE RA RB
          have F := leaf_fin (f := T) hw hB (Nat.le_succ _) RR (hnr w lo B) (show T = exN1 (0) by rw [← HTT.out]; unfold foldTwo; simp [HN.out, HB1.out, HA1.out, HB0.out, HSA.out, HA0.out, HSB.out])
          go_wp2_with fail
          refine bodyPost_ret (by simp [results, Tryd.results47, go_sem, s0, s1, s2, s3]) rfl F.out
       case true =>
        obtain ⟨y0, y1, y2, y3, y4, y5, y6, y7, y8, y9, ya, yb⟩ := cells12 RE RA RB
        go_wp2_with fail
        refine (impl_num (d + 1) (0) _ ⟨by omega, by omega⟩).mono ?_
        rintro e w10 ⟨An, cn, rfl, hnr, x10⟩
        clear y0 y1 y2 y3 y4 y5 y6 y7 y8 y9 ya yb
        replace hw := hw.trans (x10.mono hw.size)
        replace RE := RE.below x10 RE.lt
        replace RR := RR.below x10 RR.lt
        replace RA := RA.below x10 RA.lt
        replace RB := RB.below x10 RB.lt
        obtain ⟨s0, s1, s2, s3, f0, f1, f2, f3⟩ := cells8 RR
        obtain ⟨y0, y1, y2, y3, y4, y5, y6, y7, y8, y9, ya, yb⟩ := cells12 RE RA RB
        have F := leaf_fin (f := T) hw hB (Nat.le_succ _) RR (hnr w lo B) (show T = exN1 (0) by rw [← HTT.out]; unfold foldTwo; simp [HN.out, HB1.out, HA1.out, HB0.out, HSA.out])
        go_wp2_with fail
        refine bodyPost_ret (by simp [results, Tryd.results47, go_sem, s0, s1, s2, s3]) rfl F.out
     case true =>
      obtain ⟨s0, s1, s2, s3, f0, f1, f2, f3⟩ := cells8 RR
      obtain ⟨y0, y1, y2, y3, y4, y5, y6, y7, y8, y9, ya, yb⟩ := cells12 RE RA RB
      have F := leaf_fin (f := T) hw hB (Nat.le_succ _) RR hb (by rw [← HTT.out]; unfold foldTwo; simp [HN.out, HB1.out, HA1.out])
      go_wp2_with fail
      refine bodyPost_ret (by simp [results, Tryd.results47, go_sem, s0, s1, s2, s3]) rfl F.out
    case true =>
     obtain ⟨s0, s1, s2, s3, f0, f1, f2, f3⟩ := cells8 RR
     obtain ⟨y0, y1, y2, y3, y4, y5, y6, y7, y8, y9, ya, yb⟩ := cells12 RE RA RB
     have F := leaf_fin (f := T) hw hB (Nat.le_succ _) RR ha (by rw [← HTT.out]; unfold foldTwo; simp [HN.out, HB1.out])
     go_wp2_with fail
     refine bodyPost_ret (by simp [results, Tryd.results47, go_sem, s0, s1, s2, s3]) rfl F.out
   subst qa qb
   obtain ⟨an0, an1⟩ := ra rfl
   obtain ⟨bn0, bn1⟩ := rb rfl
   clear ra rb
   have hv : (arV 5 an bn).2 = true := by simp [arV]
   have HN : Hid (numB 5 (Ex.mk 1 an aname akids) (Ex.mk 1 bn bname bkids) = true) := by show _ = _; simp [numB, Ex.op, Ex.n, hv]
   have HV := Lib.hid hv
   have hI : I64 (arV 5 an bn).1 := by
     have := arV_range (op := 5) an0 an1 bn0 bn1
     exact ⟨by omega, by omega⟩
   clear hv
   obtain ⟨y0, y1, y2, y3, y4, y5, y6, y7, y8, y9, ya, yb⟩ := cells12 RE RA RB
   go_wp2_with fail
   refine (impl_arith 5 an bn _ an0 an1 bn0 bn1).mono ?_
   rw [HV.out]
   rintro e w6 ⟨rfl, hw6⟩
   subst hw6
   clear y0 y1 y2 y3 y4 y5 y6 y7 y8 y9 ya yb
   obtain ⟨y0, y1, y2, y3, y4, y5, y6, y7, y8, y9, ya, yb⟩ := cells12 RE RA RB
   go_wp2_with fail
   refine (impl_num (d + 1) ((arV 5 an bn).1) _ hI).mono ?_
   rintro e w6 ⟨An, cn, rfl, hnr, x6⟩
   clear y0 y1 y2 y3 y4 y5 y6 y7 y8 y9 ya yb
   replace hw := hw.trans (x6.mono hw.size)
   replace RE := RE.below x6 RE.lt
   replace RR := RR.below x6 RR.lt
   replace RA := RA.below x6 RA.lt
   replace RB := RB.below x6 RB.lt
   obtain ⟨s0, s1, s2, s3, f0, f1, f2, f3⟩ := cells8 RR
   obtain ⟨y0, y1, y2, y3, y4, y5, y6, y7, y8, y9, ya, yb⟩ := cells12 RE RA RB
   have F := leaf_fin (f := T) hw hB (Nat.le_succ _) RR (hnr w lo B) (show T = exN1 ((arV 5 an bn).1) by rw [← HTT.out]; unfold foldTwo; rw [if_pos HN.out]; rfl)
   go_wp2_with fail
   refine bodyPost_ret (by simp [results, Tryd.results47, go_sem, s0, s1, s2, s3]) rfl F.out
end Go.Proofs.YthfinoapfbhgcaaDoor

namespace Go.Proofs.YthfinoapfbhgcaaDoor
open Go.RowKit Go.ChangeShapes Go.WideShapes Go.Deep
set_option linter.unusedVariables false
set_option linter.unusedSimpArgs false
set_option maxRecDepth 100000 in
set_option maxHeartbeats 16000000 in
theorem impl_foldPart_6 (d : Nat) (n : Int) (name : ByteArray) (aop an : Int) (aname : ByteArray) (akids : List Ex) (bop bn : Int) (bname : ByteArray) (bkids : List Ex) (A : Option Addr) (p : Nat) (w : World) (lo B : Nat) (hB : B ≤ w.heap.size) (hn : I64 n) (hnm : name.size ≤ maxLen)
    (h3 : ∀ m, SlT m (exT m (d + 1)) w lo B [.mk aop an aname akids, .mk bop bn bname bkids] (.slice A 2 p)) (ra : aop = 1 → 0 ≤ an ∧ an ≤ 255) (rb : bop = 1 → 0 ≤ bn ∧ bn ≤ 255) (fa : formB 6 (.mk aop an aname akids) = true) (fb : formB 6 (.mk bop bn bname bkids) = true) (va : valE (.mk aop an aname akids) = true) (vb : valE (.mk bop bn bname bkids) = true) (ht : Tabs w) :
    Calls Tryd.prog 47 #[.agg #[.int .i64 6, .int .i64 n, .string name, .slice A 2 p]] w (FoldRP (d + 1) (foldTwo 6 (Ex.mk aop an aname akids) (Ex.mk bop bn bname bkids) (Ex.mk 6 n name [(Ex.mk aop an aname akids), (Ex.mk bop bn bname bkids)])) lo B w) := by
  obtain ⟨blk, op1, n1, nm1, k1, A3, p3, rfl, hlb, hbB, HL1, oa, na, sa, ha', c0, c1, c2, c3⟩ := exT_get d h3 (show 0 < 2 by omega)
  have e1 := HL1.out
  injection e1 with e1 e2 e3 e4
  subst e1 e2 e3 e4
  obtain ⟨blk', op2, n2, nm2, k2, A4, p4, hA, _, _, HL2, ob, nb, sb, hb', c4, c5, c6, c7⟩ := exT_get d h3 (show 1 < 2 by omega)
  injection hA with hA
  injection hA with hA
  subst hA
  have e1 := HL2.out
  injection e1 with e1 e2 e3 e4
  subst e1 e2 e3 e4
  have he : ∀ m, (exT m (d + 1 + 1)).rep w lo B (Ex.mk 6 n name [(Ex.mk aop an aname akids), (Ex.mk bop bn bname bkids)]) [.int .i64 6, .int .i64 n, .string name, .slice (some ⟨blk, 0, none⟩) 2 p] := fun m => exT_mk m (d + 1) 6 n name _ _ ⟨by omega, by omega⟩ hn hnm (h3 m)
  have ha : ∀ m, (exT m (d + 1 + 1)).rep w lo B (Ex.mk aop an aname akids) [.int .i64 aop, .int .i64 an, .string aname, .slice A3 akids.length p3] := fun m => exT_le m (Nat.le_succ _) (ha' m)
  have hb : ∀ m, (exT m (d + 1 + 1)).rep w lo B (Ex.mk bop bn bname bkids) [.int .i64 bop, .int .i64 bn, .string bname, .slice A4 bkids.length p4] := fun m => exT_le m (Nat.le_succ _) (hb' m)
  have ska : Sl false (exS false d) w lo B akids (.slice A3 akids.length p3) := (exT_kids d (ha' false)).exS
  have skb : Sl false (exS false d) w lo B bkids (.slice A4 bkids.length p4) := (exT_kids d (hb' false)).exS
  have h3s : Sl false (exS false (d + 1)) w lo B [(Ex.mk aop an aname akids), (Ex.mk bop bn bname bkids)] (.slice (some ⟨blk, 0, none⟩) 2 p) := (h3 false).exS
  clear ha' hb' h3 HL1 HL2
  obtain ⟨T, hTT⟩ : ∃ T, foldTwo 6 (Ex.mk aop an aname akids) (Ex.mk bop bn bname bkids) (Ex.mk 6 n name [(Ex.mk aop an aname akids), (Ex.mk bop bn bname bkids)]) = T := ⟨_, rfl⟩
  rw [hTT]
  have HTT := Lib.hid hTT
  clear hTT
  have hblk : blk < w.heap.size := by omega
  obtain ⟨vA0, hvA0⟩ : ∃ v, isN (Ex.mk aop an aname akids) 0 = v := ⟨_, rfl⟩
  obtain ⟨vA1, hvA1⟩ : ∃ v, isN (Ex.mk aop an aname akids) 1 = v := ⟨_, rfl⟩
  obtain ⟨vB0, hvB0⟩ : ∃ v, isN (Ex.mk bop bn bname bkids) 0 = v := ⟨_, rfl⟩
  obtain ⟨vB1, hvB1⟩ : ∃ v, isN (Ex.mk bop bn bname bkids) 1 = v := ⟨_, rfl⟩
  obtain ⟨vSA, hvSA⟩ : ∃ v, safeE 6 (Ex.mk aop an aname akids) = v := ⟨_, rfl⟩
  obtain ⟨vSB, hvSB⟩ : ∃ v, safeE 6 (Ex.mk bop bn bname bkids) = v := ⟨_, rfl⟩
  have HA0 := Lib.hid hvA0
  have HA1 := Lib.hid hvA1
  have HB0 := Lib.hid hvB0
  have HB1 := Lib.hid hvB1
  have HSA := Lib.hid hvSA
  have HSB := Lib.hid hvSB
  clear hvA0 hvA1 hvB0 hvB1 hvSA hvSB

  have HT := Lib.hid (fun (w9 : World) (h9 : Below w.heap.size w w9) => ht.below h9 (Nat.le_refl _))
  clear ht
  have HBSA : Hid (safB (Ex.mk aop an aname akids) = vSA) := by show _ = _; unfold safB; rw [va, HSA.out]; rfl
  have HBSB : Hid (safB (Ex.mk bop bn bname bkids) = vSB) := by show _ = _; unfold safB; rw [vb, HSB.out]; rfl
  replace va := Lib.hid va
  replace vb := Lib.hid vb
  clear fa fb
  have hw : Below w.heap.size w ((w.alloc (.cells #[.int .i64 6, .int .i64 n, .string name, .slice (some ⟨blk, 0, none⟩) 2 p] 25)).alloc (.cells #[.int .i64 0, .int .i64 0, .string ⟨#[]⟩, .slice none 0 0] 25)) := ((Below.refl _ _).alloc (Nat.le_refl _) _).alloc (by simp) _
  have RE : Row _ w.heap.size 25 #[.int .i64 6, .int .i64 n, .string name, .slice (some ⟨blk, 0, none⟩) 2 p] := (Row.new w _ _).alloc (.cells #[.int .i64 0, .int .i64 0, .string ⟨#[]⟩, .slice none 0 0] 25)
  have RR : Row ((w.alloc (.cells #[.int .i64 6, .int .i64 n, .string name, .slice (some ⟨blk, 0, none⟩) 2 p] 25)).alloc (.cells #[.int .i64 0, .int .i64 0, .string ⟨#[]⟩, .slice none 0 0] 25)) (w.heap.size + 1) 25 #[.int .i64 0, .int .i64 0, .string ⟨#[]⟩, .slice none 0 0] := by simpa using Row.new (w.alloc (.cells #[.int .i64 6, .int .i64 n, .string name, .slice (some ⟨blk, 0, none⟩) 2 p] 25)) 25 #[.int .i64 0, .int .i64 0, .string ⟨#[]⟩, .slice none 0 0]
  obtain ⟨k0, k1, k2, k3, k4, k5, k6, k7⟩ := kids8 hw hblk c0 c1 c2 c3 c4 c5 c6 c7
  have g_0 := RE.cell 3
  obtain ⟨L, hL⟩ : ∃ L : List (Addr × Value), [(⟨w.heap.size, 3, none⟩, .slice (some ⟨blk, 0, none⟩) 2 p), (⟨blk, 0, none⟩, .int .i64 aop), (⟨blk, 1, none⟩, .int .i64 an), (⟨blk, 2, none⟩, .string aname), (⟨blk, 3, none⟩, .slice A3 akids.length p3), (⟨blk, 4, none⟩, .int .i64 bop), (⟨blk, 5, none⟩, .int .i64 bn), (⟨blk, 6, none⟩, .string bname), (⟨blk, 7, none⟩, .slice A4 bkids.length p4)] = L := ⟨_, rfl⟩
  have HG : Hid (Has ((w.alloc (.cells #[.int .i64 6, .int .i64 n, .string name, .slice (some ⟨blk, 0, none⟩) 2 p] 25)).alloc (.cells #[.int .i64 0, .int .i64 0, .string ⟨#[]⟩, .slice none 0 0] 25)) L) := by
    subst hL
    exact .cons (RE.cell 3) (.cons k0 (.cons k1 (.cons k2 (.cons k3 (.cons k4 (.cons k5 (.cons k6 (.cons k7 .nil))))))))
  have HLT : Hid (∀ x ∈ L, x.1.block < w.heap.size + 2) := by
    subst hL
    exact lcons (by dsimp only; omega) (lcons (by dsimp only; omega) (lcons (by dsimp only; omega) (lcons (by dsimp only; omega) (lcons (by dsimp only; omega) (lcons (by dsimp only; omega) (lcons (by dsimp only; omega) (lcons (by dsimp only; omega) (lcons (by dsimp only; omega) (lnil)))))))))
  replace hL := Lib.hid hL.symm
  have HL := hL
  clear hL
  clear c0 c1 c2 c3 c4 c5 c6 c7
  go_enter Tryd.func47, Tryd.ntmps47
  go_wp2_with fail
  go_cut [3, 4] (fun s3 s4 wx => ∃ ga gb : Nat, s3 = .pointer (some ⟨ga, 0, none⟩) ∧ s4 = .pointer (some ⟨gb, 0, none⟩) ∧ Row wx ga 25 #[.int .i64 aop, .int .i64 an, .string aname, .slice A3 akids.length p3] ∧ Row wx gb 25 #[.int .i64 bop, .int .i64 bn, .string bname, .slice A4 bkids.length p4] ∧ w.heap.size + 1 < ga ∧ w.heap.size + 1 < gb ∧ Below (w.heap.size + 2) ((w.alloc (.cells #[.int .i64 6, .int .i64 n, .string name, .slice (some ⟨blk, 0, none⟩) 2 p] 25)).alloc (.cells #[.int .i64 0, .int .i64 0, .string ⟨#[]⟩, .slice none 0 0] 25)) wx)
  case first =>
   refine wp_region_held_drew (S := fun w' => Has w' L) (by kernel_rfl) ?_ (fun hHeld => ?_)
   · exact HG.out
   have udd : Below (w.heap.size + 2) ((w.alloc (.cells #[.int .i64 6, .int .i64 n, .string name, .slice (some ⟨blk, 0, none⟩) 2 p] 25)).alloc (.cells #[.int .i64 0, .int .i64 0, .string ⟨#[]⟩, .slice none 0 0] 25)) ((w.alloc (.cells #[.int .i64 6, .int .i64 n, .string name, .slice (some ⟨blk, 0, none⟩) 2 p] 25)).alloc (.cells #[.int .i64 0, .int .i64 0, .string ⟨#[]⟩, .slice none 0 0] 25)).drew := (Below.refl _ _).drew
   have hsd : w.heap.size + 2 ≤ ((w.alloc (.cells #[.int .i64 6, .int .i64 n, .string name, .slice (some ⟨blk, 0, none⟩) 2 p] 25)).alloc (.cells #[.int .i64 0, .int .i64 0, .string ⟨#[]⟩, .slice none 0 0] 25)).drew.heap.size := by show _ ≤ ((w.alloc (.cells #[.int .i64 6, .int .i64 n, .string name, .slice (some ⟨blk, 0, none⟩) 2 p] 25)).alloc (.cells #[.int .i64 0, .int .i64 0, .string ⟨#[]⟩, .slice none 0 0] 25)).heap.size; simp
   have h : Has ((w.alloc (.cells #[.int .i64 6, .int .i64 n, .string name, .slice (some ⟨blk, 0, none⟩) 2 p] 25)).alloc (.cells #[.int .i64 0, .int .i64 0, .string ⟨#[]⟩, .slice none 0 0] 25)).drew L := HG.out
   generalize ((w.alloc (.cells #[.int .i64 6, .int .i64 n, .string name, .slice (some ⟨blk, 0, none⟩) 2 p] 25)).alloc (.cells #[.int .i64 0, .int .i64 0, .string ⟨#[]⟩, .slice none 0 0] 25)).drew = wd at udd hsd hHeld h ⊢
   have h9 := h.nine HL.out
   dsimp only at h9
   obtain ⟨h_0, h_1, h_2, h_3, h_4, h_5, h_6, h_7, h_8⟩ := h9
   refine reg_take (i := 0) (v := ?v1) rfl (by kernel_rfl) (by kernel_rfl) (by kernel_rfl) (fun _ _ _ h => h) (Or.inl ⟨by kernel_rfl, ?h1⟩) (by assumption) ?r1
   case h1 => (intro w hSw; have hSw := Has.nine hSw HL.out; dsimp only at hSw; go_simp; try with_reducible rfl)
   try simp only [Act.put, List.setIfInBounds_toArray, List.set_cons_zero, List.set_cons_succ]
   refine reg_take (i := 1) (v := ?v2) rfl (by kernel_rfl) (by kernel_rfl) (by kernel_rfl) (fun _ _ _ h => h) (Or.inl ⟨by kernel_rfl, ?h2⟩) (by assumption) ?r2
   case h2 => (intro w hSw; have hSw := Has.nine hSw HL.out; dsimp only at hSw; go_simp; try with_reducible rfl)
   try simp only [Act.put, List.setIfInBounds_toArray, List.set_cons_zero, List.set_cons_succ]
   refine reg_take (i := 2) (v := ?v3) rfl (by kernel_rfl) (by kernel_rfl) (by kernel_rfl) (fun _ _ _ h => h) (Or.inl ⟨by kernel_rfl, ?h3⟩) (by assumption) ?r3
   case h3 => (intro w hSw; have hSw := Has.nine hSw HL.out; dsimp only at hSw; go_simp; try with_reducible rfl)
   try simp only [Act.put, List.setIfInBounds_toArray, List.set_cons_zero, List.set_cons_succ]
   refine reg_take (i := 3) (v := ?v4) rfl (by kernel_rfl) (by kernel_rfl) (by kernel_rfl) (fun _ _ _ h => h) (Or.inl ⟨by kernel_rfl, ?h4⟩) (by assumption) ?r4
   case h4 => (intro w hSw; have hSw := Has.nine hSw HL.out; dsimp only at hSw; go_simp; try with_reducible rfl)
   try simp only [Act.put, List.setIfInBounds_toArray, List.set_cons_zero, List.set_cons_succ]
   refine reg_take (i := 4) (v := ?v5) rfl (by kernel_rfl) (by kernel_rfl) (by kernel_rfl) (fun _ _ _ h => h) (Or.inl ⟨by kernel_rfl, ?h5⟩) (by assumption) ?r5
   case h5 => (intro w hSw; have hSw := Has.nine hSw HL.out; dsimp only at hSw; go_simp; try with_reducible rfl)
   try simp only [Act.put, List.setIfInBounds_toArray, List.set_cons_zero, List.set_cons_succ]
   refine reg_take (i := 5) (v := ?v6) rfl (by kernel_rfl) (by kernel_rfl) (by kernel_rfl) (fun _ _ _ h => h) (Or.inl ⟨by kernel_rfl, ?h6⟩) (by assumption) ?r6
   case h6 => (intro w hSw; have hSw := Has.nine hSw HL.out; dsimp only at hSw; go_simp; try with_reducible rfl)
   try simp only [Act.put, List.setIfInBounds_toArray, List.set_cons_zero, List.set_cons_succ]
   refine reg_take (i := 6) (v := ?v7) rfl (by kernel_rfl) (by kernel_rfl) (by kernel_rfl) (fun _ _ _ h => h) (Or.inl ⟨by kernel_rfl, ?h7⟩) (by assumption) ?r7
   case h7 => (intro w hSw; have hSw := Has.nine hSw HL.out; dsimp only at hSw; go_simp; try with_reducible rfl)
   try simp only [Act.put, List.setIfInBounds_toArray, List.set_cons_zero, List.set_cons_succ]
   refine reg_take (i := 7) (v := ?v8) rfl (by kernel_rfl) (by kernel_rfl) (by kernel_rfl) (fun _ _ _ h => h) (Or.inl ⟨by kernel_rfl, ?h8⟩) (by assumption) ?r8
   case h8 => (intro w hSw; have hSw := Has.nine hSw HL.out; dsimp only at hSw; go_simp; try with_reducible rfl)
   try simp only [Act.put, List.setIfInBounds_toArray, List.set_cons_zero, List.set_cons_succ]
   refine reg_take (i := 8) (v := ?v9) rfl (by kernel_rfl) (by kernel_rfl) (by kernel_rfl) (fun _ _ _ h => h) (Or.inl ⟨by kernel_rfl, ?h9⟩) (by assumption) ?r9
   case h9 => (intro w hSw; have hSw := Has.nine hSw HL.out; dsimp only at hSw; go_simp; try with_reducible rfl)
   try simp only [Act.put, List.setIfInBounds_toArray, List.set_cons_zero, List.set_cons_succ]
   refine reg_take (i := 9) (v := .int .i64 1) rfl (by kernel_rfl) (by kernel_rfl) (by kernel_rfl) (fun _ _ _ h => h) (Or.inl ⟨by kernel_rfl, ?h10⟩) (by assumption) ?r10
   case h10 => (intro w hSw; have hSw := Has.nine hSw HL.out; dsimp only at hSw; go_simp; try rfl)
   try simp only [Act.put, List.setIfInBounds_toArray, List.set_cons_zero, List.set_cons_succ]
   refine reg_take (i := 10) (v := ?v11) rfl (by kernel_rfl) (by kernel_rfl) (by kernel_rfl) (fun _ _ _ h => h) (Or.inl ⟨by kernel_rfl, ?h11⟩) (by assumption) ?r11
   case h11 => (intro w hSw; have hSw := Has.nine hSw HL.out; dsimp only at hSw; go_simp; try with_reducible rfl)
   try simp only [Act.put, List.setIfInBounds_toArray, List.set_cons_zero, List.set_cons_succ]
   refine reg_take (i := 11) (v := ?v12) rfl (by kernel_rfl) (by kernel_rfl) (by kernel_rfl) (fun _ _ _ h => h) (Or.inl ⟨by kernel_rfl, ?h12⟩) (by assumption) ?r12
   case h12 => (intro w hSw; have hSw := Has.nine hSw HL.out; dsimp only at hSw; go_simp; try with_reducible rfl)
   try simp only [Act.put, List.setIfInBounds_toArray, List.set_cons_zero, List.set_cons_succ]
   refine reg_call2 (i := 12) (j := 13) (by kernel_rfl) rfl rfl (fun K hK => ?_) (fun K hK => ?_)
   · go_simp
     have u1 := (Below.refl _ wd).alloc hsd (.cells #[.int .i64 0, .int .i64 0, .string ⟨#[]⟩, .slice none 0 0] 25)
     refine hK.out _ _ ?_ (fun hHeld => ?_)
     · exact h.below u1 HLT.out
     clear hK K
     try simp only [Act.put, List.setIfInBounds_toArray, List.set_cons_zero, List.set_cons_succ]
     refine reg_call (i := 13) (by kernel_rfl) rfl (fun K hK => ?_)
     go_simp
     have u2 := u1.alloc (by simp; omega) (.cells #[.int .i64 0, .int .i64 0, .string ⟨#[]⟩, .slice none 0 0] 25)
     refine hK.out _ _ ?_ (fun hHeld => ?_)
     · exact h.below u2 HLT.out
     clear hK K
     try simp only [Act.put, List.setIfInBounds_toArray, List.set_cons_zero, List.set_cons_succ]
     have q0 : Row _ wd.heap.size 25 #[.int .i64 0, .int .i64 0, .string ⟨#[]⟩, .slice none 0 0] := (Row.new wd _ _).alloc (.cells #[.int .i64 0, .int .i64 0, .string ⟨#[]⟩, .slice none 0 0] 25)
     have q1 : Row ((wd.alloc (.cells #[.int .i64 0, .int .i64 0, .string ⟨#[]⟩, .slice none 0 0] 25)).alloc (.cells #[.int .i64 0, .int .i64 0, .string ⟨#[]⟩, .slice none 0 0] 25)) (wd.heap.size + 1) 25 #[.int .i64 0, .int .i64 0, .string ⟨#[]⟩, .slice none 0 0] := by simpa using Row.new (wd.alloc (.cells #[.int .i64 0, .int .i64 0, .string ⟨#[]⟩, .slice none 0 0] 25)) 25 #[.int .i64 0, .int .i64 0, .string ⟨#[]⟩, .slice none 0 0]
     generalize ((wd.alloc (.cells #[.int .i64 0, .int .i64 0, .string ⟨#[]⟩, .slice none 0 0] 25)).alloc (.cells #[.int .i64 0, .int .i64 0, .string ⟨#[]⟩, .slice none 0 0] 25)) = wv at u2 q0 q1 hHeld ⊢
     clear u1
     obtain ⟨m0, m1, m2, m3, n0, n1, n2, n3⟩ := cells8 q0
     refine reg_call (i := 14) (by kernel_rfl) rfl (fun K hK => ?_)
     go_simp
     have u4 := ((((u2.setCell (p := ⟨wd.heap.size, 0, none⟩) hsd (.int .i64 aop)).setCell (p := ⟨wd.heap.size, 1, none⟩) hsd (.int .i64 an)).setCell (p := ⟨wd.heap.size, 2, none⟩) hsd (.string aname)).setCell (p := ⟨wd.heap.size, 3, none⟩) hsd (.slice A3 akids.length p3))
     refine hK.out _ _ ?_ (fun hHeld => ?_)
     · exact h.below u4 HLT.out
     clear hK K
     try simp only [Act.put, List.setIfInBounds_toArray, List.set_cons_zero, List.set_cons_succ]
     have r0 : Row _ (wd.heap.size) 25 #[.int .i64 aop, .int .i64 an, .string aname, .slice A3 akids.length p3] := (((q0.set_ 0 (.int .i64 aop)).set_ 1 (.int .i64 an)).set_ 2 (.string aname)).set_ 3 (.slice A3 akids.length p3)
     have hne : wd.heap.size + 1 ≠ wd.heap.size := by omega
     have r1 := ((((q1.far (p := ⟨wd.heap.size, 0, none⟩) hne (.int .i64 aop)).far (p := ⟨wd.heap.size, 1, none⟩) hne (.int .i64 an)).far (p := ⟨wd.heap.size, 2, none⟩) hne (.string aname)).far (p := ⟨wd.heap.size, 3, none⟩) hne (.slice A3 akids.length p3))
     generalize ((((wv.setCell ⟨wd.heap.size, 0, none⟩ (.int .i64 aop)).setCell ⟨wd.heap.size, 1, none⟩ (.int .i64 an)).setCell ⟨wd.heap.size, 2, none⟩ (.string aname)).setCell ⟨wd.heap.size, 3, none⟩ (.slice A3 akids.length p3)) = wy at u4 r0 r1 hHeld ⊢
     clear u2 m0 m1 m2 m3 n0 n1 n2 n3
     obtain ⟨m0, m1, m2, m3, n0, n1, n2, n3⟩ := cells8 r1
     refine reg_call (i := 15) (by kernel_rfl) rfl (fun K hK => ?_)
     go_simp
     have u6 := ((((u4.setCell (p := ⟨wd.heap.size + 1, 0, none⟩) (Nat.le_succ_of_le hsd) (.int .i64 bop)).setCell (p := ⟨wd.heap.size + 1, 1, none⟩) (Nat.le_succ_of_le hsd) (.int .i64 bn)).setCell (p := ⟨wd.heap.size + 1, 2, none⟩) (Nat.le_succ_of_le hsd) (.string bname)).setCell (p := ⟨wd.heap.size + 1, 3, none⟩) (Nat.le_succ_of_le hsd) (.slice A4 bkids.length p4))
     refine hK.out _ _ ?_ (fun hHeld => ?_)
     · exact h.below u6 HLT.out
     clear hK K
     try simp only [Act.put, List.setIfInBounds_toArray, List.set_cons_zero, List.set_cons_succ]
     have t0 : Row _ (wd.heap.size + 1) 25 #[.int .i64 bop, .int .i64 bn, .string bname, .slice A4 bkids.length p4] := (((r1.set_ 0 (.int .i64 bop)).set_ 1 (.int .i64 bn)).set_ 2 (.string bname)).set_ 3 (.slice A4 bkids.length p4)
     replace hne := hne.symm
     have t1 := ((((r0.far (p := ⟨wd.heap.size + 1, 0, none⟩) hne (.int .i64 bop)).far (p := ⟨wd.heap.size + 1, 1, none⟩) hne (.int .i64 bn)).far (p := ⟨wd.heap.size + 1, 2, none⟩) hne (.string bname)).far (p := ⟨wd.heap.size + 1, 3, none⟩) hne (.slice A4 bkids.length p4))
     refine wpAnyH_done (by kernel_rfl) ?_ _
     go_wp2_with fail
     go_meet
     case rel => exact ⟨_, _, rfl, rfl, t1, t0, by omega, by omega, udd.trans u6⟩
   · go_simp
     have u1 := (Below.refl _ wd).alloc hsd (.cells #[.int .i64 0, .int .i64 0, .string ⟨#[]⟩, .slice none 0 0] 25)
     refine hK.out _ _ ?_ (fun hHeld => ?_)
     · exact h.below u1 HLT.out
     clear hK K
     try simp only [Act.put, List.setIfInBounds_toArray, List.set_cons_zero, List.set_cons_succ]
     refine reg_call (i := 12) (by kernel_rfl) rfl (fun K hK => ?_)
     go_simp
     have u2 := u1.alloc (by simp; omega) (.cells #[.int .i64 0, .int .i64 0, .string ⟨#[]⟩, .slice none 0 0] 25)
     refine hK.out _ _ ?_ (fun hHeld => ?_)
     · exact h.below u2 HLT.out
     clear hK K
     try simp only [Act.put, List.setIfInBounds_toArray, List.set_cons_zero, List.set_cons_succ]
     have q0 : Row _ wd.heap.size 25 #[.int .i64 0, .int .i64 0, .string ⟨#[]⟩, .slice none 0 0] := (Row.new wd _ _).alloc (.cells #[.int .i64 0, .int .i64 0, .string ⟨#[]⟩, .slice none 0 0] 25)
     have q1 : Row ((wd.alloc (.cells #[.int .i64 0, .int .i64 0, .string ⟨#[]⟩, .slice none 0 0] 25)).alloc (.cells #[.int .i64 0, .int .i64 0, .string ⟨#[]⟩, .slice none 0 0] 25)) (wd.heap.size + 1) 25 #[.int .i64 0, .int .i64 0, .string ⟨#[]⟩, .slice none 0 0] := by simpa using Row.new (wd.alloc (.cells #[.int .i64 0, .int .i64 0, .string ⟨#[]⟩, .slice none 0 0] 25)) 25 #[.int .i64 0, .int .i64 0, .string ⟨#[]⟩, .slice none 0 0]
     generalize ((wd.alloc (.cells #[.int .i64 0, .int .i64 0, .string ⟨#[]⟩, .slice none 0 0] 25)).alloc (.cells #[.int .i64 0, .int .i64 0, .string ⟨#[]⟩, .slice none 0 0] 25)) = wv at u2 q0 q1 hHeld ⊢
     clear u1
     obtain ⟨m0, m1, m2, m3, n0, n1, n2, n3⟩ := cells8 q1
     refine reg_call (i := 14) (by kernel_rfl) rfl (fun K hK => ?_)
     go_simp
     have u4 := ((((u2.setCell (p := ⟨wd.heap.size + 1, 0, none⟩) (Nat.le_succ_of_le hsd) (.int .i64 aop)).setCell (p := ⟨wd.heap.size + 1, 1, none⟩) (Nat.le_succ_of_le hsd) (.int .i64 an)).setCell (p := ⟨wd.heap.size + 1, 2, none⟩) (Nat.le_succ_of_le hsd) (.string aname)).setCell (p := ⟨wd.heap.size + 1, 3, none⟩) (Nat.le_succ_of_le hsd) (.slice A3 akids.length p3))
     refine hK.out _ _ ?_ (fun hHeld => ?_)
     · exact h.below u4 HLT.out
     clear hK K
     try simp only [Act.put, List.setIfInBounds_toArray, List.set_cons_zero, List.set_cons_succ]
     have r0 : Row _ (wd.heap.size + 1) 25 #[.int .i64 aop, .int .i64 an, .string aname, .slice A3 akids.length p3] := (((q1.set_ 0 (.int .i64 aop)).set_ 1 (.int .i64 an)).set_ 2 (.string aname)).set_ 3 (.slice A3 akids.length p3)
     have hne : wd.heap.size ≠ wd.heap.size + 1 := by omega
     have r1 := ((((q0.far (p := ⟨wd.heap.size + 1, 0, none⟩) hne (.int .i64 aop)).far (p := ⟨wd.heap.size + 1, 1, none⟩) hne (.int .i64 an)).far (p := ⟨wd.heap.size + 1, 2, none⟩) hne (.string aname)).far (p := ⟨wd.heap.size + 1, 3, none⟩) hne (.slice A3 akids.length p3))
     generalize ((((wv.setCell ⟨wd.heap.size + 1, 0, none⟩ (.int .i64 aop)).setCell ⟨wd.heap.size + 1, 1, none⟩ (.int .i64 an)).setCell ⟨wd.heap.size + 1, 2, none⟩ (.string aname)).setCell ⟨wd.heap.size + 1, 3, none⟩ (.slice A3 akids.length p3)) = wy at u4 r0 r1 hHeld ⊢
     clear u2 m0 m1 m2 m3 n0 n1 n2 n3
     obtain ⟨m0, m1, m2, m3, n0, n1, n2, n3⟩ := cells8 r1
     refine reg_call (i := 15) (by kernel_rfl) rfl (fun K hK => ?_)
     go_simp
     have u6 := ((((u4.setCell (p := ⟨wd.heap.size, 0, none⟩) hsd (.int .i64 bop)).setCell (p := ⟨wd.heap.size, 1, none⟩) hsd (.int .i64 bn)).setCell (p := ⟨wd.heap.size, 2, none⟩) hsd (.string bname)).setCell (p := ⟨wd.heap.size, 3, none⟩) hsd (.slice A4 bkids.length p4))
     refine hK.out _ _ ?_ (fun hHeld => ?_)
     · exact h.below u6 HLT.out
     clear hK K
     try simp only [Act.put, List.setIfInBounds_toArray, List.set_cons_zero, List.set_cons_succ]
     have t0 : Row _ (wd.heap.size) 25 #[.int .i64 bop, .int .i64 bn, .string bname, .slice A4 bkids.length p4] := (((r1.set_ 0 (.int .i64 bop)).set_ 1 (.int .i64 bn)).set_ 2 (.string bname)).set_ 3 (.slice A4 bkids.length p4)
     replace hne := hne.symm
     have t1 := ((((r0.far (p := ⟨wd.heap.size, 0, none⟩) hne (.int .i64 bop)).far (p := ⟨wd.heap.size, 1, none⟩) hne (.int .i64 bn)).far (p := ⟨wd.heap.size, 2, none⟩) hne (.string bname)).far (p := ⟨wd.heap.size, 3, none⟩) hne (.slice A4 bkids.length p4))
     refine wpAnyH_done (by kernel_rfl) ?_ _
     go_wp2_with fail
     go_meet
     case rel => exact ⟨_, _, rfl, rfl, t1, t0, by omega, by omega, udd.trans u6⟩
  case rest =>
   obtain ⟨ga, gb, rfl, rfl, RA, RB, hga, hgb, hbc⟩ := hcut
   replace hw : Below w.heap.size w wc := hw.trans (hbc.mono (by omega))
   replace RE := RE.below hbc (by omega)
   replace RR := RR.below hbc (by omega)
   clear hbc HG HL HLT g_0 k0 k1 k2 k3 k4 k5 k6 k7
   by_cases qa : aop = 1
   case neg =>
    have qa' : (aop == 1) = false := by simpa using qa
    have HN : Hid (numB 6 (Ex.mk aop an aname akids) (Ex.mk bop bn bname bkids) = false) := by show _ = _; simp [numB, Ex.op, qa]
    clear qa
    obtain ⟨y0, y1, y2, y3, y4, y5, y6, y7, y8, y9, ya, yb⟩ := cells12 RE RA RB
    go_wp2_with fail
    refine (impl_isNum bop bn bname (.slice A4 bkids.length p4) 1 _ bkids ⟨_, _, rfl⟩).mono ?_
    rw [HB1.out]
    rintro e w6 ⟨rfl, x6⟩
    clear y0 y1 y2 y3 y4 y5 y6 y7 y8 y9 ya yb
    replace hw := hw.trans (x6.mono hw.size)
    replace RE := RE.below x6 RE.lt
    replace RR := RR.below x6 RR.lt
    replace RA := RA.below x6 RA.lt
    replace RB := RB.below x6 RB.lt
    cases vB1
    case false =>
     obtain ⟨s0, s1, s2, s3, f0, f1, f2, f3⟩ := cells8 RR
     obtain ⟨y0, y1, y2, y3, y4, y5, y6, y7, y8, y9, ya, yb⟩ := cells12 RE RA RB
     have F := leaf_fin (f := T) hw hB (Nat.le_succ _) RR he (by rw [← HTT.out]; unfold foldTwo; simp [HN.out, HB1.out])
     go_wp2_with fail
     refine bodyPost_ret (by simp [results, Tryd.results47, go_sem, s0, s1, s2, s3]) rfl F.out
    case true =>
     obtain ⟨s0, s1, s2, s3, f0, f1, f2, f3⟩ := cells8 RR
     obtain ⟨y0, y1, y2, y3, y4, y5, y6, y7, y8, y9, ya, yb⟩ := cells12 RE RA RB
     have F := leaf_fin (f := T) hw hB (Nat.le_succ _) RR ha (by rw [← HTT.out]; unfold foldTwo; simp [HN.out, HB1.out])
     go_wp2_with fail
     refine bodyPost_ret (by simp [results, Tryd.results47, go_sem, s0, s1, s2, s3]) rfl F.out
   by_cases qb : bop = 1
   case neg =>
    have qb' : (bop == 1) = false := by simpa using qb
    have HN : Hid (numB 6 (Ex.mk aop an aname akids) (Ex.mk bop bn bname bkids) = false) := by show _ = _; simp [numB, Ex.op, qb]
    subst qa
    clear qb
    obtain ⟨y0, y1, y2, y3, y4, y5, y6, y7, y8, y9, ya, yb⟩ := cells12 RE RA RB
    go_wp2_with fail
    refine (impl_isNum bop bn bname (.slice A4 bkids.length p4) 1 _ bkids ⟨_, _, rfl⟩).mono ?_
    rw [HB1.out]
    rintro e w6 ⟨rfl, x6⟩
    clear y0 y1 y2 y3 y4 y5 y6 y7 y8 y9 ya yb
    replace hw := hw.trans (x6.mono hw.size)
    replace RE := RE.below x6 RE.lt
    replace RR := RR.below x6 RR.lt
    replace RA := RA.below x6 RA.lt
    replace RB := RB.below x6 RB.lt
    cases vB1
    case false =>
     obtain ⟨s0, s1, s2, s3, f0, f1, f2, f3⟩ := cells8 RR
     obtain ⟨y0, y1, y2, y3, y4, y5, y6, y7, y8, y9, ya, yb⟩ := cells12 RE RA RB
     have F := leaf_fin (f := T) hw hB (Nat.le_succ _) RR he (by rw [← HTT.out]; unfold foldTwo; simp [HN.out, HB1.out])
     go_wp2_with fail
     refine bodyPost_ret (by simp [results, Tryd.results47, go_sem, s0, s1, s2, s3]) rfl F.out
    case true =>
     obtain ⟨s0, s1, s2, s3, f0, f1, f2, f3⟩ := cells8 RR
     obtain ⟨y0, y1, y2, y3, y4, y5, y6, y7, y8, y9, ya, yb⟩ := cells12 RE RA RB
     have F := leaf_fin (f := T) hw hB (Nat.le_succ _) RR ha (by rw [← HTT.out]; unfold foldTwo; simp [HN.out, HB1.out])
     go_wp2_with fail
     refine bodyPost_ret (by simp [results, Tryd.results47, go_sem, s0, s1, s2, s3]) rfl F.out
   subst qa qb
   obtain ⟨an0, an1⟩ := ra rfl
   obtain ⟨bn0, bn1⟩ := rb rfl
   clear ra rb
   by_cases hbz : bn = 0
   case pos =>
     have hv : (arV 6 an bn).2 = false := by simp [arV, hbz]
     have HN : Hid (numB 6 (Ex.mk 1 an aname akids) (Ex.mk 1 bn bname bkids) = false) := by show _ = _; simp [numB, Ex.op, Ex.n, hv]
     have HV := Lib.hid hv
     obtain rfl : vB0 = true := by rw [← HB0.out, hbz]; simp [isN, Ex.op, Ex.n]
     obtain rfl : vB1 = false := by rw [← HB1.out, hbz]; simp [isN, Ex.op, Ex.n]
     clear hv hbz
     obtain ⟨y0, y1, y2, y3, y4, y5, y6, y7, y8, y9, ya, yb⟩ := cells12 RE RA RB
     go_wp2_with fail
     refine (impl_arith 6 an bn _ an0 an1 bn0 bn1).mono ?_
     rw [HV.out]
     rintro e w6 ⟨rfl, hw6⟩
     subst hw6
     clear y0 y1 y2 y3 y4 y5 y6 y7 y8 y9 ya yb
     obtain ⟨y0, y1, y2, y3, y4, y5, y6, y7, y8, y9, ya, yb⟩ := cells12 RE RA RB
     go_wp2_with fail
     refine (impl_isNum 1 bn bname (.slice A4 bkids.length p4) 1 _ bkids ⟨_, _, rfl⟩).mono ?_
     rw [HB1.out]
     rintro e w6 ⟨rfl, x6⟩
     clear y0 y1 y2 y3 y4 y5 y6 y7 y8 y9 ya yb
     replace hw := hw.trans (x6.mono hw.size)
     replace RE := RE.below x6 RE.lt
     replace RR := RR.below x6 RR.lt
     replace RA := RA.below x6 RA.lt
     replace RB := RB.below x6 RB.lt
     obtain ⟨s0, s1, s2, s3, f0, f1, f2, f3⟩ := cells8 RR
     obtain ⟨y0, y1, y2, y3, y4, y5, y6, y7, y8, y9, ya, yb⟩ := cells12 RE RA RB
     have F := leaf_fin (f := T) hw hB (Nat.le_succ _) RR he (by rw [← HTT.out]; unfold foldTwo; simp [HN.out, HB0.out, HB1.out])
     go_wp2_with fail
     refine bodyPost_ret (by simp [results, Tryd.results47, go_sem, s0, s1, s2, s3]) rfl F.out
   have hv : (arV 6 an bn).2 = true := by simp [arV, hbz]
   clear hbz
   have HN : Hid (numB 6 (Ex.mk 1 an aname akids) (Ex.mk 1 bn bname bkids) = true) := by show _ = _; simp [numB, Ex.op, Ex.n, hv]
   have HV := Lib.hid hv
   have hI : I64 (arV 6 an bn).1 := by
     have := arV_range (op := 6) an0 an1 bn0 bn1
     exact ⟨by omega, by omega⟩
   clear hv
   obtain ⟨y0, y1, y2, y3, y4, y5, y6, y7, y8, y9, ya, yb⟩ := cells12 RE RA RB
   go_wp2_with fail
   refine (impl_arith 6 an bn _ an0 an1 bn0 bn1).mono ?_
   rw [HV.out]
   rintro e w6 ⟨rfl, hw6⟩
   subst hw6
   clear y0 y1 y2 y3 y4 y5 y6 y7 y8 y9 ya yb
   obtain ⟨y0, y1, y2, y3, y4, y5, y6, y7, y8, y9, ya, yb⟩ := cells12 RE RA RB
   go_wp2_with fail
   refine (impl_num (d + 1) ((arV 6 an bn).1) _ hI).mono ?_
   rintro e w6 ⟨An, cn, rfl, hnr, x6⟩
   clear y0 y1 y2 y3 y4 y5 y6 y7 y8 y9 ya yb
   replace hw := hw.trans (x6.mono hw.size)
   replace RE := RE.below x6 RE.lt
   replace RR := RR.below x6 RR.lt
   replace RA := RA.below x6 RA.lt
   replace RB := RB.below x6 RB.lt
   obtain ⟨s0, s1, s2, s3, f0, f1, f2, f3⟩ := cells8 RR
   obtain ⟨y0, y1, y2, y3, y4, y5, y6, y7, y8, y9, ya, yb⟩ := cells12 RE RA RB
   have F := leaf_fin (f := T) hw hB (Nat.le_succ _) RR (hnr w lo B) (show T = exN1 ((arV 6 an bn).1) by rw [← HTT.out]; unfold foldTwo; rw [if_pos HN.out]; rfl)
   go_wp2_with fail
   refine bodyPost_ret (by simp [results, Tryd.results47, go_sem, s0, s1, s2, s3]) rfl F.out
end Go.Proofs.YthfinoapfbhgcaaDoor

namespace Go.Proofs.YthfinoapfbhgcaaDoor
open Go.RowKit Go.ChangeShapes Go.WideShapes Go.Deep
set_option linter.unusedVariables false
set_option linter.unusedSimpArgs false
set_option maxRecDepth 100000 in
set_option maxHeartbeats 16000000 in
theorem impl_foldPart_7 (d : Nat) (n : Int) (name : ByteArray) (aop an : Int) (aname : ByteArray) (akids : List Ex) (bop bn : Int) (bname : ByteArray) (bkids : List Ex) (A : Option Addr) (p : Nat) (w : World) (lo B : Nat) (hB : B ≤ w.heap.size) (hn : I64 n) (hnm : name.size ≤ maxLen)
    (h3 : ∀ m, SlT m (exT m (d + 1)) w lo B [.mk aop an aname akids, .mk bop bn bname bkids] (.slice A 2 p)) (ra : aop = 1 → 0 ≤ an ∧ an ≤ 255) (rb : bop = 1 → 0 ≤ bn ∧ bn ≤ 255) (fa : formB 6 (.mk aop an aname akids) = true) (fb : formB 6 (.mk bop bn bname bkids) = true) (va : valE (.mk aop an aname akids) = true) (vb : valE (.mk bop bn bname bkids) = true) (ht : Tabs w) :
    Calls Tryd.prog 47 #[.agg #[.int .i64 7, .int .i64 n, .string name, .slice A 2 p]] w (FoldRP (d + 1) (foldTwo 7 (Ex.mk aop an aname akids) (Ex.mk bop bn bname bkids) (Ex.mk 7 n name [(Ex.mk aop an aname akids), (Ex.mk bop bn bname bkids)])) lo B w) := by
  obtain ⟨blk, op1, n1, nm1, k1, A3, p3, rfl, hlb, hbB, HL1, oa, na, sa, ha', c0, c1, c2, c3⟩ := exT_get d h3 (show 0 < 2 by omega)
  have e1 := HL1.out
  injection e1 with e1 e2 e3 e4
  subst e1 e2 e3 e4
  obtain ⟨blk', op2, n2, nm2, k2, A4, p4, hA, _, _, HL2, ob, nb, sb, hb', c4, c5, c6, c7⟩ := exT_get d h3 (show 1 < 2 by omega)
  injection hA with hA
  injection hA with hA
  subst hA
  have e1 := HL2.out
  injection e1 with e1 e2 e3 e4
  subst e1 e2 e3 e4
  have he : ∀ m, (exT m (d + 1 + 1)).rep w lo B (Ex.mk 7 n name [(Ex.mk aop an aname akids), (Ex.mk bop bn bname bkids)]) [.int .i64 7, .int .i64 n, .string name, .slice (some ⟨blk, 0, none⟩) 2 p] := fun m => exT_mk m (d + 1) 7 n name _ _ ⟨by omega, by omega⟩ hn hnm (h3 m)
  have ha : ∀ m, (exT m (d + 1 + 1)).rep w lo B (Ex.mk aop an aname akids) [.int .i64 aop, .int .i64 an, .string aname, .slice A3 akids.length p3] := fun m => exT_le m (Nat.le_succ _) (ha' m)
  have hb : ∀ m, (exT m (d + 1 + 1)).rep w lo B (Ex.mk bop bn bname bkids) [.int .i64 bop, .int .i64 bn, .string bname, .slice A4 bkids.length p4] := fun m => exT_le m (Nat.le_succ _) (hb' m)
  have ska : Sl false (exS false d) w lo B akids (.slice A3 akids.length p3) := (exT_kids d (ha' false)).exS
  have skb : Sl false (exS false d) w lo B bkids (.slice A4 bkids.length p4) := (exT_kids d (hb' false)).exS
  have h3s : Sl false (exS false (d + 1)) w lo B [(Ex.mk aop an aname akids), (Ex.mk bop bn bname bkids)] (.slice (some ⟨blk, 0, none⟩) 2 p) := (h3 false).exS
  clear ha' hb' h3 HL1 HL2
  obtain ⟨T, hTT⟩ : ∃ T, foldTwo 7 (Ex.mk aop an aname akids) (Ex.mk bop bn bname bkids) (Ex.mk 7 n name [(Ex.mk aop an aname akids), (Ex.mk bop bn bname bkids)]) = T := ⟨_, rfl⟩
  rw [hTT]
  have HTT := Lib.hid hTT
  clear hTT
  have hblk : blk < w.heap.size := by omega
  obtain ⟨vA0, hvA0⟩ : ∃ v, isN (Ex.mk aop an aname akids) 0 = v := ⟨_, rfl⟩
  obtain ⟨vA1, hvA1⟩ : ∃ v, isN (Ex.mk aop an aname akids) 1 = v := ⟨_, rfl⟩
  obtain ⟨vB0, hvB0⟩ : ∃ v, isN (Ex.mk bop bn bname bkids) 0 = v := ⟨_, rfl⟩
  obtain ⟨vB1, hvB1⟩ : ∃ v, isN (Ex.mk bop bn bname bkids) 1 = v := ⟨_, rfl⟩
  obtain ⟨vSA, hvSA⟩ : ∃ v, safeE 6 (Ex.mk aop an aname akids) = v := ⟨_, rfl⟩
  obtain ⟨vSB, hvSB⟩ : ∃ v, safeE 6 (Ex.mk bop bn bname bkids) = v := ⟨_, rfl⟩
  have HA0 := Lib.hid hvA0
  have HA1 := Lib.hid hvA1
  have HB0 := Lib.hid hvB0
  have HB1 := Lib.hid hvB1
  have HSA := Lib.hid hvSA
  have HSB := Lib.hid hvSB
  clear hvA0 hvA1 hvB0 hvB1 hvSA hvSB

  have HT := Lib.hid (fun (w9 : World) (h9 : Below w.heap.size w w9) => ht.below h9 (Nat.le_refl _))
  clear ht
  have HBSA : Hid (safB (Ex.mk aop an aname akids) = vSA) := by show _ = _; unfold safB; rw [va, HSA.out]; rfl
  have HBSB : Hid (safB (Ex.mk bop bn bname bkids) = vSB) := by show _ = _; unfold safB; rw [vb, HSB.out]; rfl
  replace va := Lib.hid va
  replace vb := Lib.hid vb
  clear fa fb
  have hw : Below w.heap.size w ((w.alloc (.cells #[.int .i64 7, .int .i64 n, .string name, .slice (some ⟨blk, 0, none⟩) 2 p] 25)).alloc (.cells #[.int .i64 0, .int .i64 0, .string ⟨#[]⟩, .slice none 0 0] 25)) := ((Below.refl _ _).alloc (Nat.le_refl _) _).alloc (by simp) _
  have RE : Row _ w.heap.size 25 #[.int .i64 7, .int .i64 n, .string name, .slice (some ⟨blk, 0, none⟩) 2 p] := (Row.new w _ _).alloc (.cells #[.int .i64 0, .int .i64 0, .string ⟨#[]⟩, .slice none 0 0] 25)
  have RR : Row ((w.alloc (.cells #[.int .i64 7, .int .i64 n, .string name, .slice (some ⟨blk, 0, none⟩) 2 p] 25)).alloc (.cells #[.int .i64 0, .int .i64 0, .string ⟨#[]⟩, .slice none 0 0] 25)) (w.heap.size + 1) 25 #[.int .i64 0, .int .i64 0, .string ⟨#[]⟩, .slice none 0 0] := by simpa using Row.new (w.alloc (.cells #[.int .i64 7, .int .i64 n, .string name, .slice (some ⟨blk, 0, none⟩) 2 p] 25)) 25 #[.int .i64 0, .int .i64 0, .string ⟨#[]⟩, .slice none 0 0]
  obtain ⟨k0, k1, k2, k3, k4, k5, k6, k7⟩ := kids8 hw hblk c0 c1 c2 c3 c4 c5 c6 c7
  have g_0 := RE.cell 3
  obtain ⟨L, hL⟩ : ∃ L : List (Addr × Value), [(⟨w.heap.size, 3, none⟩, .slice (some ⟨blk, 0, none⟩) 2 p), (⟨blk, 0, none⟩, .int .i64 aop), (⟨blk, 1, none⟩, .int .i64 an), (⟨blk, 2, none⟩, .string aname), (⟨blk, 3, none⟩, .slice A3 akids.length p3), (⟨blk, 4, none⟩, .int .i64 bop), (⟨blk, 5, none⟩, .int .i64 bn), (⟨blk, 6, none⟩, .string bname), (⟨blk, 7, none⟩, .slice A4 bkids.length p4)] = L := ⟨_, rfl⟩
  have HG : Hid (Has ((w.alloc (.cells #[.int .i64 7, .int .i64 n, .string name, .slice (some ⟨blk, 0, none⟩) 2 p] 25)).alloc (.cells #[.int .i64 0, .int .i64 0, .string ⟨#[]⟩, .slice none 0 0] 25)) L) := by
    subst hL
    exact .cons (RE.cell 3) (.cons k0 (.cons k1 (.cons k2 (.cons k3 (.cons k4 (.cons k5 (.cons k6 (.cons k7 .nil))))))))
  have HLT : Hid (∀ x ∈ L, x.1.block < w.heap.size + 2) := by
    subst hL
    exact lcons (by dsimp only; omega) (lcons (by dsimp only; omega) (lcons (by dsimp only; omega) (lcons (by dsimp only; omega) (lcons (by dsimp only; omega) (lcons (by dsimp only; omega) (lcons (by dsimp only; omega) (lcons (by dsimp only; omega) (lcons (by dsimp only; omega) (lnil)))))))))
  replace hL := Lib.hid hL.symm
  have HL := hL
  clear hL
  clear c0 c1 c2 c3 c4 c5 c6 c7
  go_enter Tryd.func47, Tryd.ntmps47
  go_wp2_with fail
  go_cut [3, 4] (fun s3 s4 wx => ∃ ga gb : Nat, s3 = .pointer (some ⟨ga, 0, none⟩) ∧ s4 = .pointer (some ⟨gb, 0, none⟩) ∧ Row wx ga 25 #[.int .i64 aop, .int .i64 an, .string aname, .slice A3 akids.length p3] ∧ Row wx gb 25 #[.int .i64 bop, .int .i64 bn, .string bname, .slice A4 bkids.length p4] ∧ w.heap.size + 1 < ga ∧ w.heap.size + 1 < gb ∧ Below (w.heap.size + 2) ((w.alloc (.cells #[.int .i64 7, .int .i64 n, .string name, .slice (some ⟨blk, 0, none⟩) 2 p] 25)).alloc (.cells #[.int .i64 0, .int .i64 0, .string ⟨#[]⟩, .slice none 0 0] 25)) wx)
  case first =>
   refine wp_region_held_drew (S := fun w' => Has w' L) (by kernel_rfl) ?_ (fun hHeld => ?_)
   · exact HG.out
   have udd : Below (w.heap.size + 2) ((w.alloc (.cells #[.int .i64 7, .int .i64 n, .string name, .slice (some ⟨blk, 0, none⟩) 2 p] 25)).alloc (.cells #[.int .i64 0, .int .i64 0, .string ⟨#[]⟩, .slice none 0 0] 25)) ((w.alloc (.cells #[.int .i64 7, .int .i64 n, .string name, .slice (some ⟨blk, 0, none⟩) 2 p] 25)).alloc (.cells #[.int .i64 0, .int .i64 0, .string ⟨#[]⟩, .slice none 0 0] 25)).drew := (Below.refl _ _).drew
   have hsd : w.heap.size + 2 ≤ ((w.alloc (.cells #[.int .i64 7, .int .i64 n, .string name, .slice (some ⟨blk, 0, none⟩) 2 p] 25)).alloc (.cells #[.int .i64 0, .int .i64 0, .string ⟨#[]⟩, .slice none 0 0] 25)).drew.heap.size := by show _ ≤ ((w.alloc (.cells #[.int .i64 7, .int .i64 n, .string name, .slice (some ⟨blk, 0, none⟩) 2 p] 25)).alloc (.cells #[.int .i64 0, .int .i64 0, .string ⟨#[]⟩, .slice none 0 0] 25)).heap.size; simp
   have h : Has ((w.alloc (.cells #[.int .i64 7, .int .i64 n, .string name, .slice (some ⟨blk, 0, none⟩) 2 p] 25)).alloc (.cells #[.int .i64 0, .int .i64 0, .string ⟨#[]⟩, .slice none 0 0] 25)).drew L := HG.out
   generalize ((w.alloc (.cells #[.int .i64 7, .int .i64 n, .string name, .slice (some ⟨blk, 0, none⟩) 2 p] 25)).alloc (.cells #[.int .i64 0, .int .i64 0, .string ⟨#[]⟩, .slice none 0 0] 25)).drew = wd at udd hsd hHeld h ⊢
   have h9 := h.nine HL.out
   dsimp only at h9
   obtain ⟨h_0, h_1, h_2, h_3, h_4, h_5, h_6, h_7, h_8⟩ := h9
   refine reg_take (i := 0) (v := ?v1) rfl (by kernel_rfl) (by kernel_rfl) (by kernel_rfl) (fun _ _ _ h => h) (Or.inl ⟨by kernel_rfl, ?h1⟩) (by assumption) ?r1
   case h1 => (intro w hSw; have hSw := Has.nine hSw HL.out; dsimp only at hSw; go_simp; try with_reducible rfl)
   try simp only [Act.put, List.setIfInBounds_toArray, List.set_cons_zero, List.set_cons_succ]
   refine reg_take (i := 1) (v := ?v2) rfl (by kernel_rfl) (by kernel_rfl) (by kernel_rfl) (fun _ _ _ h => h) (Or.inl ⟨by kernel_rfl, ?h2⟩) (by assumption) ?r2
   case h2 => (intro w hSw; have hSw := Has.nine hSw HL.out; dsimp only at hSw; go_simp; try with_reducible rfl)
   try simp only [Act.put, List.setIfInBounds_toArray, List.set_cons_zero, List.set_cons_succ]
   refine reg_take (i := 2) (v := ?v3) rfl (by kernel_rfl) (by kernel_rfl) (by kernel_rfl) (fun _ _ _ h => h) (Or.inl ⟨by kernel_rfl, ?h3⟩) (by assumption) ?r3
   case h3 => (intro w hSw; have hSw := Has.nine hSw HL.out; dsimp only at hSw; go_simp; try with_reducible rfl)
   try simp only [Act.put, List.setIfInBounds_toArray, List.set_cons_zero, List.set_cons_succ]
   refine reg_take (i := 3) (v := ?v4) rfl (by kernel_rfl) (by kernel_rfl) (by kernel_rfl) (fun _ _ _ h => h) (Or.inl ⟨by kernel_rfl, ?h4⟩) (by assumption) ?r4
   case h4 => (intro w hSw; have hSw := Has.nine hSw HL.out; dsimp only at hSw; go_simp; try with_reducible rfl)
   try simp only [Act.put, List.setIfInBounds_toArray, List.set_cons_zero, List.set_cons_succ]
   refine reg_take (i := 4) (v := ?v5) rfl (by kernel_rfl) (by kernel_rfl) (by kernel_rfl) (fun _ _ _ h => h) (Or.inl ⟨by kernel_rfl, ?h5⟩) (by assumption) ?r5
   case h5 => (intro w hSw; have hSw := Has.nine hSw HL.out; dsimp only at hSw; go_simp; try with_reducible rfl)
   try simp only [Act.put, List.setIfInBounds_toArray, List.set_cons_zero, List.set_cons_succ]
   refine reg_take (i := 5) (v := ?v6) rfl (by kernel_rfl) (by kernel_rfl) (by kernel_rfl) (fun _ _ _ h => h) (Or.inl ⟨by kernel_rfl, ?h6⟩) (by assumption) ?r6
   case h6 => (intro w hSw; have hSw := Has.nine hSw HL.out; dsimp only at hSw; go_simp; try with_reducible rfl)
   try simp only [Act.put, List.setIfInBounds_toArray, List.set_cons_zero, List.set_cons_succ]
   refine reg_take (i := 6) (v := ?v7) rfl (by kernel_rfl) (by kernel_rfl) (by kernel_rfl) (fun _ _ _ h => h) (Or.inl ⟨by kernel_rfl, ?h7⟩) (by assumption) ?r7
   case h7 => (intro w hSw; have hSw := Has.nine hSw HL.out; dsimp only at hSw; go_simp; try with_reducible rfl)
   try simp only [Act.put, List.setIfInBounds_toArray, List.set_cons_zero, List.set_cons_succ]
   refine reg_take (i := 7) (v := ?v8) rfl (by kernel_rfl) (by kernel_rfl) (by kernel_rfl) (fun _ _ _ h => h) (Or.inl ⟨by kernel_rfl, ?h8⟩) (by assumption) ?r8
   case h8 => (intro w hSw; have hSw := Has.nine hSw HL.out; dsimp only at hSw; go_simp; try with_reducible rfl)
   try simp only [Act.put, List.setIfInBounds_toArray, List.set_cons_zero, List.set_cons_succ]
   refine reg_take (i := 8) (v := ?v9) rfl (by kernel_rfl) (by kernel_rfl) (by kernel_rfl) (fun _ _ _ h => h) (Or.inl ⟨by kernel_rfl, ?h9⟩) (by assumption) ?r9
   case h9 => (intro w hSw; have hSw := Has.nine hSw HL.out; dsimp only at hSw; go_simp; try with_reducible rfl)
   try simp only [Act.put, List.setIfInBounds_toArray, List.set_cons_zero, List.set_cons_succ]
   refine reg_take (i := 9) (v := .int .i64 1) rfl (by kernel_rfl) (by kernel_rfl) (by kernel_rfl) (fun _ _ _ h => h) (Or.inl ⟨by kernel_rfl, ?h10⟩) (by assumption) ?r10
   case h10 => (intro w hSw; have hSw := Has.nine hSw HL.out; dsimp only at hSw; go_simp; try rfl)
   try simp only [Act.put, List.setIfInBounds_toArray, List.set_cons_zero, List.set_cons_succ]
   refine reg_take (i := 10) (v := ?v11) rfl (by kernel_rfl) (by kernel_rfl) (by kernel_rfl) (fun _ _ _ h => h) (Or.inl ⟨by kernel_rfl, ?h11⟩) (by assumption) ?r11
   case h11 => (intro w hSw; have hSw := Has.nine hSw HL.out; dsimp only at hSw; go_simp; try with_reducible rfl)
   try simp only [Act.put, List.setIfInBounds_toArray, List.set_cons_zero, List.set_cons_succ]
   refine reg_take (i := 11) (v := ?v12) rfl (by kernel_rfl) (by kernel_rfl) (by kernel_rfl) (fun _ _ _ h => h) (Or.inl ⟨by kernel_rfl, ?h12⟩) (by assumption) ?r12
   case h12 => (intro w hSw; have hSw := Has.nine hSw HL.out; dsimp only at hSw; go_simp; try with_reducible rfl)
   try simp only [Act.put, List.setIfInBounds_toArray, List.set_cons_zero, List.set_cons_succ]
   refine reg_call2 (i := 12) (j := 13) (by kernel_rfl) rfl rfl (fun K hK => ?_) (fun K hK => ?_)
   · go_simp
     have u1 := (Below.refl _ wd).alloc hsd (.cells #[.int .i64 0, .int .i64 0, .string ⟨#[]⟩, .slice none 0 0] 25)
     refine hK.out _ _ ?_ (fun hHeld => ?_)
     · exact h.below u1 HLT.out
     clear hK K
     try simp only [Act.put, List.setIfInBounds_toArray, List.set_cons_zero, List.set_cons_succ]
     refine reg_call (i := 13) (by kernel_rfl) rfl (fun K hK => ?_)
     go_simp
     have u2 := u1.alloc (by simp; omega) (.cells #[.int .i64 0, .int .i64 0, .string ⟨#[]⟩, .slice none 0 0] 25)
     refine hK.out _ _ ?_ (fun hHeld => ?_)
     · exact h.below u2 HLT.out
     clear hK K
     try simp only [Act.put, List.setIfInBounds_toArray, List.set_cons_zero, List.set_cons_succ]
     have q0 : Row _ wd.heap.size 25 #[.int .i64 0, .int .i64 0, .string ⟨#[]⟩, .slice none 0 0] := (Row.new wd _ _).alloc (.cells #[.int .i64 0, .int .i64 0, .string ⟨#[]⟩, .slice none 0 0] 25)
     have q1 : Row ((wd.alloc (.cells #[.int .i64 0, .int .i64 0, .string ⟨#[]⟩, .slice none 0 0] 25)).alloc (.cells #[.int .i64 0, .int .i64 0, .string ⟨#[]⟩, .slice none 0 0] 25)) (wd.heap.size + 1) 25 #[.int .i64 0, .int .i64 0, .string ⟨#[]⟩, .slice none 0 0] := by simpa using Row.new (wd.alloc (.cells #[.int .i64 0, .int .i64 0, .string ⟨#[]⟩, .slice none 0 0] 25)) 25 #[.int .i64 0, .int .i64 0, .string ⟨#[]⟩, .slice none 0 0]
     generalize ((wd.alloc (.cells #[.int .i64 0, .int .i64 0, .string ⟨#[]⟩, .slice none 0 0] 25)).alloc (.cells #[.int .i64 0, .int .i64 0, .string ⟨#[]⟩, .slice none 0 0] 25)) = wv at u2 q0 q1 hHeld ⊢
     clear u1
     obtain ⟨m0, m1, m2, m3, n0, n1, n2, n3⟩ := cells8 q0
     refine reg_call (i := 14) (by kernel_rfl) rfl (fun K hK => ?_)
     go_simp
     have u4 := ((((u2.setCell (p := ⟨wd.heap.size, 0, none⟩) hsd (.int .i64 aop)).setCell (p := ⟨wd.heap.size, 1, none⟩) hsd (.int .i64 an)).setCell (p := ⟨wd.heap.size, 2, none⟩) hsd (.string aname)).setCell (p := ⟨wd.heap.size, 3, none⟩) hsd (.slice A3 akids.length p3))
     refine hK.out _ _ ?_ (fun hHeld => ?_)
     · exact h.below u4 HLT.out
     clear hK K
     try simp only [Act.put, List.setIfInBounds_toArray, List.set_cons_zero, List.set_cons_succ]
     have r0 : Row _ (wd.heap.size) 25 #[.int .i64 aop, .int .i64 an, .string aname, .slice A3 akids.length p3] := (((q0.set_ 0 (.int .i64 aop)).set_ 1 (.int .i64 an)).set_ 2 (.string aname)).set_ 3 (.slice A3 akids.length p3)
     have hne : wd.heap.size + 1 ≠ wd.heap.size := by omega
     have r1 := ((((q1.far (p := ⟨wd.heap.size, 0, none⟩) hne (.int .i64 aop)).far (p := ⟨wd.heap.size, 1, none⟩) hne (.int .i64 an)).far (p := ⟨wd.heap.size, 2, none⟩) hne (.string aname)).far (p := ⟨wd.heap.size, 3, none⟩) hne (.slice A3 akids.length p3))
     generalize ((((wv.setCell ⟨wd.heap.size, 0, none⟩ (.int .i64 aop)).setCell ⟨wd.heap.size, 1, none⟩ (.int .i64 an)).setCell ⟨wd.heap.size, 2, none⟩ (.string aname)).setCell ⟨wd.heap.size, 3, none⟩ (.slice A3 akids.length p3)) = wy at u4 r0 r1 hHeld ⊢
     clear u2 m0 m1 m2 m3 n0 n1 n2 n3
     obtain ⟨m0, m1, m2, m3, n0, n1, n2, n3⟩ := cells8 r1
     refine reg_call (i := 15) (by kernel_rfl) rfl (fun K hK => ?_)
     go_simp
     have u6 := ((((u4.setCell (p := ⟨wd.heap.size + 1, 0, none⟩) (Nat.le_succ_of_le hsd) (.int .i64 bop)).setCell (p := ⟨wd.heap.size + 1, 1, none⟩) (Nat.le_succ_of_le hsd) (.int .i64 bn)).setCell (p := ⟨wd.heap.size + 1, 2, none⟩) (Nat.le_succ_of_le hsd) (.string bname)).setCell (p := ⟨wd.heap.size + 1, 3, none⟩) (Nat.le_succ_of_le hsd) (.slice A4 bkids.length p4))
     refine hK.out _ _ ?_ (fun hHeld => ?_)
     · exact h.below u6 HLT.out
     clear hK K
     try simp only [Act.put, List.setIfInBounds_toArray, List.set_cons_zero, List.set_cons_succ]
     have t0 : Row _ (wd.heap.size + 1) 25 #[.int .i64 bop, .int .i64 bn, .string bname, .slice A4 bkids.length p4] := (((r1.set_ 0 (.int .i64 bop)).set_ 1 (.int .i64 bn)).set_ 2 (.string bname)).set_ 3 (.slice A4 bkids.length p4)
     replace hne := hne.symm
     have t1 := ((((r0.far (p := ⟨wd.heap.size + 1, 0, none⟩) hne (.int .i64 bop)).far (p := ⟨wd.heap.size + 1, 1, none⟩) hne (.int .i64 bn)).far (p := ⟨wd.heap.size + 1, 2, none⟩) hne (.string bname)).far (p := ⟨wd.heap.size + 1, 3, none⟩) hne (.slice A4 bkids.length p4))
     refine wpAnyH_done (by kernel_rfl) ?_ _
     go_wp2_with fail
     go_meet
     case rel => exact ⟨_, _, rfl, rfl, t1, t0, by omega, by omega, udd.trans u6⟩
   · go_simp
     have u1 := (Below.refl _ wd).alloc hsd (.cells #[.int .i64 0, .int .i64 0, .string ⟨#[]⟩, .slice none 0 0] 25)
     refine hK.out _ _ ?_ (fun hHeld => ?_)
     · exact h.below u1 HLT.out
     clear hK K
     try simp only [Act.put, List.setIfInBounds_toArray, List.set_cons_zero, List.set_cons_succ]
     refine reg_call (i := 12) (by kernel_rfl) rfl (fun K hK => ?_)
     go_simp
     have u2 := u1.alloc (by simp; omega) (.cells #[.int .i64 0, .int .i64 0, .string ⟨#[]⟩, .slice none 0 0] 25)
     refine hK.out _ _ ?_ (fun hHeld => ?_)
     · exact h.below u2 HLT.out
     clear hK K
     try simp only [Act.put, List.setIfInBounds_toArray, List.set_cons_zero, List.set_cons_succ]
     have q0 : Row _ wd.heap.size 25 #[.int .i64 0, .int .i64 0, .string ⟨#[]⟩, .slice none 0 0] := (Row.new wd _ _).alloc (.cells #[.int .i64 0, .int .i64 0, .string ⟨#[]⟩, .slice none 0 0] 25)
     have q1 : Row ((wd.alloc (.cells #[.int .i64 0, .int .i64 0, .string ⟨#[]⟩, .slice none 0 0] 25)).alloc (.cells #[.int .i64 0, .int .i64 0, .string ⟨#[]⟩, .slice none 0 0] 25)) (wd.heap.size + 1) 25 #[.int .i64 0, .int .i64 0, .string ⟨#[]⟩, .slice none 0 0] := by simpa using Row.new (wd.alloc (.cells #[.int .i64 0, .int .i64 0, .string ⟨#[]⟩, .slice none 0 0] 25)) 25 #[.int .i64 0, .int .i64 0, .string ⟨#[]⟩, .slice none 0 0]
     generalize ((wd.alloc (.cells #[.int .i64 0, .int .i64 0, .string ⟨#[]⟩, .slice none 0 0] 25)).alloc (.cells #[.int .i64 0, .int .i64 0, .string ⟨#[]⟩, .slice none 0 0] 25)) = wv at u2 q0 q1 hHeld ⊢
     clear u1
     obtain ⟨m0, m1, m2, m3, n0, n1, n2, n3⟩ := cells8 q1
     refine reg_call (i := 14) (by kernel_rfl) rfl (fun K hK => ?_)
     go_simp
     have u4 := ((((u2.setCell (p := ⟨wd.heap.size + 1, 0, none⟩) (Nat.le_succ_of_le hsd) (.int .i64 aop)).setCell (p := ⟨wd.heap.size + 1, 1, none⟩) (Nat.le_succ_of_le hsd) (.int .i64 an)).setCell (p := ⟨wd.heap.size + 1, 2, none⟩) (Nat.le_succ_of_le hsd) (.string aname)).setCell (p := ⟨wd.heap.size + 1, 3, none⟩) (Nat.le_succ_of_le hsd) (.slice A3 akids.length p3))
     refine hK.out _ _ ?_ (fun hHeld => ?_)
     · exact h.below u4 HLT.out
     clear hK K
     try simp only [Act.put, List.setIfInBounds_toArray, List.set_cons_zero, List.set_cons_succ]
     have r0 : Row _ (wd.heap.size + 1) 25 #[.int .i64 aop, .int .i64 an, .string aname, .slice A3 akids.length p3] := (((q1.set_ 0 (.int .i64 aop)).set_ 1 (.int .i64 an)).set_ 2 (.string aname)).set_ 3 (.slice A3 akids.length p3)
     have hne : wd.heap.size ≠ wd.heap.size + 1 := by omega
     have r1 := ((((q0.far (p := ⟨wd.heap.size + 1, 0, none⟩) hne (.int .i64 aop)).far (p := ⟨wd.heap.size + 1, 1, none⟩) hne (.int .i64 an)).far (p := ⟨wd.heap.size + 1, 2, none⟩) hne (.string aname)).far (p := ⟨wd.heap.size + 1, 3, none⟩) hne (.slice A3 akids.length p3))
     generalize ((((wv.setCell ⟨wd.heap.size + 1, 0, none⟩ (.int .i64 aop)).setCell ⟨wd.heap.size + 1, 1, none⟩ (.int .i64 an)).setCell ⟨wd.heap.size + 1, 2, none⟩ (.string aname)).setCell ⟨wd.heap.size + 1, 3, none⟩ (.slice A3 akids.length p3)) = wy at u4 r0 r1 hHeld ⊢
     clear u2 m0 m1 m2 m3 n0 n1 n2 n3
     obtain ⟨m0, m1, m2, m3, n0, n1, n2, n3⟩ := cells8 r1
     refine reg_call (i := 15) (by kernel_rfl) rfl (fun K hK => ?_)
     go_simp
     have u6 := ((((u4.setCell (p := ⟨wd.heap.size, 0, none⟩) hsd (.int .i64 bop)).setCell (p := ⟨wd.heap.size, 1, none⟩) hsd (.int .i64 bn)).setCell (p := ⟨wd.heap.size, 2, none⟩) hsd (.string bname)).setCell (p := ⟨wd.heap.size, 3, none⟩) hsd (.slice A4 bkids.length p4))
     refine hK.out _ _ ?_ (fun hHeld => ?_)
     · exact h.below u6 HLT.out
     clear hK K
     try simp only [Act.put, List.setIfInBounds_toArray, List.set_cons_zero, List.set_cons_succ]
     have t0 : Row _ (wd.heap.size) 25 #[.int .i64 bop, .int .i64 bn, .string bname, .slice A4 bkids.length p4] := (((r1.set_ 0 (.int .i64 bop)).set_ 1 (.int .i64 bn)).set_ 2 (.string bname)).set_ 3 (.slice A4 bkids.length p4)
     replace hne := hne.symm
     have t1 := ((((r0.far (p := ⟨wd.heap.size, 0, none⟩) hne (.int .i64 bop)).far (p := ⟨wd.heap.size, 1, none⟩) hne (.int .i64 bn)).far (p := ⟨wd.heap.size, 2, none⟩) hne (.string bname)).far (p := ⟨wd.heap.size, 3, none⟩) hne (.slice A4 bkids.length p4))
     refine wpAnyH_done (by kernel_rfl) ?_ _
     go_wp2_with fail
     go_meet
     case rel => exact ⟨_, _, rfl, rfl, t1, t0, by omega, by omega, udd.trans u6⟩
  case rest =>
   obtain ⟨ga, gb, rfl, rfl, RA, RB, hga, hgb, hbc⟩ := hcut
   replace hw : Below w.heap.size w wc := hw.trans (hbc.mono (by omega))
   replace RE := RE.below hbc (by omega)
   replace RR := RR.below hbc (by omega)
   clear hbc HG HL HLT g_0 k0 k1 k2 k3 k4 k5 k6 k7
   by_cases qa : aop = 1
   case neg =>
    have qa' : (aop == 1) = false := by simpa using qa
    have HN : Hid (numB 7 (Ex.mk aop an aname akids) (Ex.mk bop bn bname bkids) = false) := by show _ = _; simp [numB, Ex.op, qa]
    clear qa
    obtain ⟨s0, s1, s2, s3, f0, f1, f2, f3⟩ := cells8 RR
    obtain ⟨y0, y1, y2, y3, y4, y5, y6, y7, y8, y9, ya, yb⟩ := cells12 RE RA RB
    have F := leaf_fin (f := T) hw hB (Nat.le_succ _) RR he (by rw [← HTT.out]; unfold foldTwo; simp [HN.out])
    go_wp2_with fail
    refine bodyPost_ret (by simp [results, Tryd.results47, go_sem, s0, s1, s2, s3]) rfl F.out
   by_cases qb : bop = 1
   case neg =>
    have qb' : (bop == 1) = false := by simpa using qb
    have HN : Hid (numB 7 (Ex.mk aop an aname akids) (Ex.mk bop bn bname bkids) = false) := by show _ = _; simp [numB, Ex.op, qb]
    subst qa
    clear qb
    obtain ⟨s0, s1, s2, s3, f0, f1, f2, f3⟩ := cells8 RR
    obtain ⟨y0, y1, y2, y3, y4, y5, y6, y7, y8, y9, ya, yb⟩ := cells12 RE RA RB
    have F := leaf_fin (f := T) hw hB (Nat.le_succ _) RR he (by rw [← HTT.out]; unfold foldTwo; simp [HN.out])
    go_wp2_with fail
    refine bodyPost_ret (by simp [results, Tryd.results47, go_sem, s0, s1, s2, s3]) rfl F.out
   subst qa qb
   obtain ⟨an0, an1⟩ := ra rfl
   obtain ⟨bn0, bn1⟩ := rb rfl
   clear ra rb
   by_cases hbz : bn = 0
   case pos =>
     have hv : (arV 7 an bn).2 = false := by simp [arV, hbz]
     have HN : Hid (numB 7 (Ex.mk 1 an aname akids) (Ex.mk 1 bn bname bkids) = false) := by show _ = _; simp [numB, Ex.op, Ex.n, hv]
     have HV := Lib.hid hv
     obtain rfl : vB0 = true := by rw [← HB0.out, hbz]; simp [isN, Ex.op, Ex.n]
     obtain rfl : vB1 = false := by rw [← HB1.out, hbz]; simp [isN, Ex.op, Ex.n]
     clear hv hbz
     obtain ⟨y0, y1, y2, y3, y4, y5, y6, y7, y8, y9, ya, yb⟩ := cells12 RE RA RB
     go_wp2_with fail
     refine (impl_arith 7 an bn _ an0 an1 bn0 bn1).mono ?_
     rw [HV.out]
     rintro e w6 ⟨rfl, hw6⟩
     subst hw6
     clear y0 y1 y2 y3 y4 y5 y6 y7 y8 y9 ya yb
     obtain ⟨s0, s1, s2, s3, f0, f1, f2, f3⟩ := cells8 RR
     obtain ⟨y0, y1, y2, y3, y4, y5, y6, y7, y8, y9, ya, yb⟩ := cells12 RE RA RB
     have F := leaf_fin (f := T) hw hB (Nat.le_succ _) RR he (by rw [← HTT.out]; unfold foldTwo; simp [HN.out, HB0.out, HB1.out])
     go_wp2_with fail
     refine bodyPost_ret (by simp [results, Tryd.results47, go_sem, s0, s1, s2, s3]) rfl F.out
   have hv : (arV 7 an bn).2 = true := by simp [arV, hbz]
   clear hbz
   have HN : Hid (numB 7 (Ex.mk 1 an aname akids) (Ex.mk 1 bn bname bkids) = true) := by show _ = _; simp [numB, Ex.op, Ex.n, hv]
   have HV := Lib.hid hv
   have hI : I64 (arV 7 an bn).1 := by
     have := arV_range (op := 7) an0 an1 bn0 bn1
     exact ⟨by omega, by omega⟩
   clear hv
   obtain ⟨y0, y1, y2, y3, y4, y5, y6, y7, y8, y9, ya, yb⟩ := cells12 RE RA RB
   go_wp2_with fail
   refine (impl_arith 7 an bn _ an0 an1 bn0 bn1).mono ?_
   rw [HV.out]
   rintro e w6 ⟨rfl, hw6⟩
   subst hw6
   clear y0 y1 y2 y3 y4 y5 y6 y7 y8 y9 ya yb
   obtain ⟨y0, y1, y2, y3, y4, y5, y6, y7, y8, y9, ya, yb⟩ := cells12 RE RA RB
   go_wp2_with fail
   refine (impl_num (d + 1) ((arV 7 an bn).1) _ hI).mono ?_
   rintro e w6 ⟨An, cn, rfl, hnr, x6⟩
   clear y0 y1 y2 y3 y4 y5 y6 y7 y8 y9 ya yb
   replace hw := hw.trans (x6.mono hw.size)
   replace RE := RE.below x6 RE.lt
   replace RR := RR.below x6 RR.lt
   replace RA := RA.below x6 RA.lt
   replace RB := RB.below x6 RB.lt
   obtain ⟨s0, s1, s2, s3, f0, f1, f2, f3⟩ := cells8 RR
   obtain ⟨y0, y1, y2, y3, y4, y5, y6, y7, y8, y9, ya, yb⟩ := cells12 RE RA RB
   have F := leaf_fin (f := T) hw hB (Nat.le_succ _) RR (hnr w lo B) (show T = exN1 ((arV 7 an bn).1) by rw [← HTT.out]; unfold foldTwo; rw [if_pos HN.out]; rfl)
   go_wp2_with fail
   refine bodyPost_ret (by simp [results, Tryd.results47, go_sem, s0, s1, s2, s3]) rfl F.out
end Go.Proofs.YthfinoapfbhgcaaDoor

