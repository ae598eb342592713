/-
  Several texts in one: FoldS3, FoldS4, FoldS5, FoldS6.
-/
import Derived.Test.YthfinoapfbhgcaaDoorFoldZ
namespace Go.Proofs.YthfinoapfbhgcaaDoor
open Go.RowKit Go.ChangeShapes Go.WideShapes Go.Deep
set_option linter.unusedVariables false
set_option linter.unusedSimpArgs false
set_option maxRecDepth 100000 in
set_option maxHeartbeats 16000000 in
theorem spec_l6Part_3 (d : Nat) (n : Int) (name : ByteArray) (aop an : Int) (aname : ByteArray) (akids : List Ex) (bop bn : Int) (bname : ByteArray) (bkids : List Ex) (A : Option Addr) (p : Nat) (w : World) (lo B : Nat) (hB : B ≤ w.heap.size) (hn : I64 n) (hnm : name.size ≤ maxLen)
    (h3 : ∀ m, SlT m (exT m (d + 1)) w lo B [.mk aop an aname akids, .mk bop bn bname bkids] (.slice A 2 p)) (ra : aop = 1 → 0 ≤ an ∧ an ≤ 255) (rb : bop = 1 → 0 ≤ bn ∧ bn ≤ 255) (fa : formB 6 (.mk aop an aname akids) = true) (fb : formB 6 (.mk bop bn bname bkids) = true) :
    Calls Tryd.prog 48 #[.agg #[.int .i64 3, .int .i64 n, .string name, .slice A 2 p]] w (FoldRP (d + 1) (foldTwo 3 (Ex.mk aop an aname akids) (Ex.mk bop bn bname bkids) (Ex.mk 3 n name [(Ex.mk aop an aname akids), (Ex.mk bop bn bname bkids)])) lo B w) := by
  obtain ⟨blk, op1, n1, nm1, k1, A3, p3, rfl, hlb, hbB, HL1, oa, na, sa, ha', c0, c1, c2, c3⟩ := exT_get d h3 (show 0 < 2 by omega)
  have e1 := HL1.out
  injection e1 with e1 e2 e3 e4
  subst e1 e2 e3 e4
  obtain ⟨blk', op2, n2, nm2, k2, A4, p4, hA, _, _, HL2, ob, nb, sb, hb', c4, c5, c6, c7⟩ := exT_get d h3 (show 1 < 2 by omega)
  injection hA with hA
  injection hA with hA
  subst hA
  have e1 := HL2.out
  injection e1 with e1 e2 e3 e4
  subst e1 e2 e3 e4
  have he : ∀ m, (exT m (d + 1 + 1)).rep w lo B (Ex.mk 3 n name [(Ex.mk aop an aname akids), (Ex.mk bop bn bname bkids)]) [.int .i64 3, .int .i64 n, .string name, .slice (some ⟨blk, 0, none⟩) 2 p] := fun m => exT_mk m (d + 1) 3 n name _ _ ⟨by omega, by omega⟩ hn hnm (h3 m)
  have ha : ∀ m, (exT m (d + 1 + 1)).rep w lo B (Ex.mk aop an aname akids) [.int .i64 aop, .int .i64 an, .string aname, .slice A3 akids.length p3] := fun m => exT_le m (Nat.le_succ _) (ha' m)
  have hb : ∀ m, (exT m (d + 1 + 1)).rep w lo B (Ex.mk bop bn bname bkids) [.int .i64 bop, .int .i64 bn, .string bname, .slice A4 bkids.length p4] := fun m => exT_le m (Nat.le_succ _) (hb' m)
  have ska : Sl false (exS false d) w lo B akids (.slice A3 akids.length p3) := (exT_kids d (ha' false)).exS
  have skb : Sl false (exS false d) w lo B bkids (.slice A4 bkids.length p4) := (exT_kids d (hb' false)).exS
  have h3s : Sl false (exS false (d + 1)) w lo B [(Ex.mk aop an aname akids), (Ex.mk bop bn bname bkids)] (.slice (some ⟨blk, 0, none⟩) 2 p) := (h3 false).exS
  clear ha' hb' h3 HL1 HL2
  obtain ⟨T, hTT⟩ : ∃ T, foldTwo 3 (Ex.mk aop an aname akids) (Ex.mk bop bn bname bkids) (Ex.mk 3 n name [(Ex.mk aop an aname akids), (Ex.mk bop bn bname bkids)]) = T := ⟨_, rfl⟩
  rw [hTT]
  have HTT := Lib.hid hTT
  clear hTT
  have hblk : blk < w.heap.size := by omega
  obtain ⟨vA0, hvA0⟩ : ∃ v, isN (Ex.mk aop an aname akids) 0 = v := ⟨_, rfl⟩
  obtain ⟨vA1, hvA1⟩ : ∃ v, isN (Ex.mk aop an aname akids) 1 = v := ⟨_, rfl⟩
  obtain ⟨vB0, hvB0⟩ : ∃ v, isN (Ex.mk bop bn bname bkids) 0 = v := ⟨_, rfl⟩
  obtain ⟨vB1, hvB1⟩ : ∃ v, isN (Ex.mk bop bn bname bkids) 1 = v := ⟨_, rfl⟩
  obtain ⟨vSA, hvSA⟩ : ∃ v, safeE 6 (Ex.mk aop an aname akids) = v := ⟨_, rfl⟩
  obtain ⟨vSB, hvSB⟩ : ∃ v, safeE 6 (Ex.mk bop bn bname bkids) = v := ⟨_, rfl⟩
  have HA0 := Lib.hid hvA0
  have HA1 := Lib.hid hvA1
  have HB0 := Lib.hid hvB0
  have HB1 := Lib.hid hvB1
  have HSA := Lib.hid hvSA
  have HSB := Lib.hid hvSB
  clear hvA0 hvA1 hvB0 hvB1 hvSA hvSB

  have hw : Below w.heap.size w ((w.alloc (.cells #[.int .i64 3, .int .i64 n, .string name, .slice (some ⟨blk, 0, none⟩) 2 p] 25)).alloc (.cells #[.int .i64 0, .int .i64 0, .string ⟨#[]⟩, .slice none 0 0] 25)) := ((Below.refl _ _).alloc (Nat.le_refl _) _).alloc (by simp) _
  have RE : Row _ w.heap.size 25 #[.int .i64 3, .int .i64 n, .string name, .slice (some ⟨blk, 0, none⟩) 2 p] := (Row.new w _ _).alloc (.cells #[.int .i64 0, .int .i64 0, .string ⟨#[]⟩, .slice none 0 0] 25)
  have RR : Row ((w.alloc (.cells #[.int .i64 3, .int .i64 n, .string name, .slice (some ⟨blk, 0, none⟩) 2 p] 25)).alloc (.cells #[.int .i64 0, .int .i64 0, .string ⟨#[]⟩, .slice none 0 0] 25)) (w.heap.size + 1) 25 #[.int .i64 0, .int .i64 0, .string ⟨#[]⟩, .slice none 0 0] := by simpa using Row.new (w.alloc (.cells #[.int .i64 3, .int .i64 n, .string name, .slice (some ⟨blk, 0, none⟩) 2 p] 25)) 25 #[.int .i64 0, .int .i64 0, .string ⟨#[]⟩, .slice none 0 0]
  go_enter Tryd.func48, Tryd.ntmps48
  go_wp2_with fail
  refine (spec_l1In 3 3 10 _).mono ?_
  rw [show inB 3 3 10 = true from by decide]
  rintro e w5 ⟨rfl, hw5⟩
  rw [hw5] at hw RE RR
  clear hw5
  obtain ⟨k0, k1, k2, k3, k4, k5, k6, k7⟩ := kids8 hw hblk c0 c1 c2 c3 c4 c5 c6 c7
  obtain ⟨z0, z1, z2, z3⟩ := cells4 RE
  have y_6 := (Below.refl _ w5).alloc (Nat.le_refl _) (.cells #[.int .i64 aop, .int .i64 an, .string aname, .slice A3 akids.length p3] 25)
  replace hw := hw.trans (y_6.mono hw.size)
  replace RE := RE.below y_6 RE.lt
  replace RR := RR.below y_6 RR.lt
  have RA : Row _ _ _ #[.int .i64 aop, .int .i64 an, .string aname, .slice A3 akids.length p3] := Row.new w5 25 _
  obtain ⟨l0, l1, l2, l3, l4, l5, l6, l7⟩ := kids8 hw hblk c0 c1 c2 c3 c4 c5 c6 c7
  obtain ⟨t0, t1, t2, t3⟩ := cells4 RE
  have y_7 := (Below.refl _ (w5.alloc (.cells #[.int .i64 aop, .int .i64 an, .string aname, .slice A3 akids.length p3] 25))).alloc (Nat.le_refl _) (.cells #[.int .i64 bop, .int .i64 bn, .string bname, .slice A4 bkids.length p4] 25)
  replace hw := hw.trans (y_7.mono hw.size)
  replace RE := RE.below y_7 RE.lt
  replace RR := RR.below y_7 RR.lt
  replace RA := RA.below y_7 RA.lt
  have RB : Row ((w5.alloc (.cells #[.int .i64 aop, .int .i64 an, .string aname, .slice A3 akids.length p3] 25)).alloc (.cells #[.int .i64 bop, .int .i64 bn, .string bname, .slice A4 bkids.length p4] 25)) (w5.heap.size + 1) 25 #[.int .i64 bop, .int .i64 bn, .string bname, .slice A4 bkids.length p4] := by simpa using Row.new (w5.alloc (.cells #[.int .i64 aop, .int .i64 an, .string aname, .slice A3 akids.length p3] 25)) 25 #[.int .i64 bop, .int .i64 bn, .string bname, .slice A4 bkids.length p4]
  clear c0 c1 c2 c3 c4 c5 c6 c7
  by_cases qa : aop = 1
  case neg =>
   have qa' : (aop == 1) = false := by simpa using qa
   have HN : Hid (numB 3 (Ex.mk aop an aname akids) (Ex.mk bop bn bname bkids) = false) := by show _ = _; simp [numB, Ex.op, qa]
   clear qa
   obtain ⟨y0, y1, y2, y3, y4, y5, y6, y7, y8, y9, ya, yb⟩ := cells12 RE RA RB
   go_wp2_with fail
   refine (spec_l6Is bop bn bname (.slice A4 bkids.length p4) 0 _ bkids ⟨_, _, rfl⟩).mono ?_
   rw [HB0.out]
   rintro e w8 ⟨rfl, x8⟩
   clear y0 y1 y2 y3 y4 y5 y6 y7 y8 y9 ya yb
   replace hw := hw.trans (x8.mono hw.size)
   replace RE := RE.below x8 RE.lt
   replace RR := RR.below x8 RR.lt
   replace RA := RA.below x8 RA.lt
   replace RB := RB.below x8 RB.lt
   cases vB0
   case false =>
    obtain ⟨y0, y1, y2, y3, y4, y5, y6, y7, y8, y9, ya, yb⟩ := cells12 RE RA RB
    go_wp2_with fail
    refine (spec_l6Is bop bn bname (.slice A4 bkids.length p4) 1 _ bkids ⟨_, _, rfl⟩).mono ?_
    rw [HB1.out]
    rintro e w9 ⟨rfl, x9⟩
    clear y0 y1 y2 y3 y4 y5 y6 y7 y8 y9 ya yb
    replace hw := hw.trans (x9.mono hw.size)
    replace RE := RE.below x9 RE.lt
    replace RR := RR.below x9 RR.lt
    replace RA := RA.below x9 RA.lt
    replace RB := RB.below x9 RB.lt
    cases vB1
    case false =>
     obtain ⟨y0, y1, y2, y3, y4, y5, y6, y7, y8, y9, ya, yb⟩ := cells12 RE RA RB
     go_wp2_with fail
     refine (spec_l6Is aop an aname (.slice A3 akids.length p3) 0 _ akids ⟨_, _, rfl⟩).mono ?_
     rw [HA0.out]
     rintro e w10 ⟨rfl, x10⟩
     clear y0 y1 y2 y3 y4 y5 y6 y7 y8 y9 ya yb
     replace hw := hw.trans (x10.mono hw.size)
     replace RE := RE.below x10 RE.lt
     replace RR := RR.below x10 RR.lt
     replace RA := RA.below x10 RA.lt
     replace RB := RB.below x10 RB.lt
     cases vA0
     case false =>
      obtain ⟨y0, y1, y2, y3, y4, y5, y6, y7, y8, y9, ya, yb⟩ := cells12 RE RA RB
      go_wp2_with fail
      refine (spec_l6Is aop an aname (.slice A3 akids.length p3) 1 _ akids ⟨_, _, rfl⟩).mono ?_
      rw [HA1.out]
      rintro e w11 ⟨rfl, x11⟩
      clear y0 y1 y2 y3 y4 y5 y6 y7 y8 y9 ya yb
      replace hw := hw.trans (x11.mono hw.size)
      replace RE := RE.below x11 RE.lt
      replace RR := RR.below x11 RR.lt
      replace RA := RA.below x11 RA.lt
      replace RB := RB.below x11 RB.lt
      cases vA1
      case false =>
       obtain ⟨s0, s1, s2, s3, f0, f1, f2, f3⟩ := cells8 RR
       obtain ⟨y0, y1, y2, y3, y4, y5, y6, y7, y8, y9, ya, yb⟩ := cells12 RE RA RB
       have F := leaf_fin (f := T) hw hB (Nat.le_succ _) RR he (by rw [← HTT.out]; unfold foldTwo; simp [HN.out, HB0.out, HB1.out, HA0.out, HA1.out])
       go_wp2_with fail
       refine bodyPost_ret (by simp [results, Tryd.results48, go_sem, s0, s1, s2, s3]) rfl F.out
      case true =>
       obtain ⟨s0, s1, s2, s3, f0, f1, f2, f3⟩ := cells8 RR
       obtain ⟨y0, y1, y2, y3, y4, y5, y6, y7, y8, y9, ya, yb⟩ := cells12 RE RA RB
       have F := leaf_fin (f := T) hw hB (Nat.le_succ _) RR he (by rw [← HTT.out]; unfold foldTwo; simp [HN.out, HB0.out, HB1.out, HA0.out, HA1.out])
       go_wp2_with fail
       refine bodyPost_ret (by simp [results, Tryd.results48, go_sem, s0, s1, s2, s3]) rfl F.out
     case true =>
      obtain ⟨s0, s1, s2, s3, f0, f1, f2, f3⟩ := cells8 RR
      obtain ⟨y0, y1, y2, y3, y4, y5, y6, y7, y8, y9, ya, yb⟩ := cells12 RE RA RB
      have F := leaf_fin (f := T) hw hB (Nat.le_succ _) RR hb (by rw [← HTT.out]; unfold foldTwo; simp [HN.out, HB0.out, HB1.out, HA0.out])
      go_wp2_with fail
      refine bodyPost_ret (by simp [results, Tryd.results48, go_sem, s0, s1, s2, s3]) rfl F.out
    case true =>
     obtain ⟨y0, y1, y2, y3, y4, y5, y6, y7, y8, y9, ya, yb⟩ := cells12 RE RA RB
     go_wp2_with fail
     refine (spec_l6Is aop an aname (.slice A3 akids.length p3) 0 _ akids ⟨_, _, rfl⟩).mono ?_
     rw [HA0.out]
     rintro e w10 ⟨rfl, x10⟩
     clear y0 y1 y2 y3 y4 y5 y6 y7 y8 y9 ya yb
     replace hw := hw.trans (x10.mono hw.size)
     replace RE := RE.below x10 RE.lt
     replace RR := RR.below x10 RR.lt
     replace RA := RA.below x10 RA.lt
     replace RB := RB.below x10 RB.lt
     cases vA0
     case false =>
      obtain ⟨y0, y1, y2, y3, y4, y5, y6, y7, y8, y9, ya, yb⟩ := cells12 RE RA RB
      go_wp2_with fail
      refine (spec_l6Is aop an aname (.slice A3 akids.length p3) 1 _ akids ⟨_, _, rfl⟩).mono ?_
      rw [HA1.out]
      rintro e w11 ⟨rfl, x11⟩
      clear y0 y1 y2 y3 y4 y5 y6 y7 y8 y9 ya yb
      replace hw := hw.trans (x11.mono hw.size)
      replace RE := RE.below x11 RE.lt
      replace RR := RR.below x11 RR.lt
      replace RA := RA.below x11 RA.lt
      replace RB := RB.below x11 RB.lt
      cases vA1
      case false =>
       obtain ⟨s0, s1, s2, s3, f0, f1, f2, f3⟩ := cells8 RR
       obtain ⟨y0, y1, y2, y3, y4, y5, y6, y7, y8, y9, ya, yb⟩ := cells12 RE RA RB
       have F := leaf_fin (f := T) hw hB (Nat.le_succ _) RR he (by rw [← HTT.out]; unfold foldTwo; simp [HN.out, HB0.out, HB1.out, HA0.out, HA1.out])
       go_wp2_with fail
       refine bodyPost_ret (by simp [results, Tryd.results48, go_sem, s0, s1, s2, s3]) rfl F.out
      case true =>
       obtain ⟨s0, s1, s2, s3, f0, f1, f2, f3⟩ := cells8 RR
       obtain ⟨y0, y1, y2, y3, y4, y5, y6, y7, y8, y9, ya, yb⟩ := cells12 RE RA RB
       have F := leaf_fin (f := T) hw hB (Nat.le_succ _) RR he (by rw [← HTT.out]; unfold foldTwo; simp [HN.out, HB0.out, HB1.out, HA0.out, HA1.out])
       go_wp2_with fail
       refine bodyPost_ret (by simp [results, Tryd.results48, go_sem, s0, s1, s2, s3]) rfl F.out
     case true =>
      obtain ⟨s0, s1, s2, s3, f0, f1, f2, f3⟩ := cells8 RR
      obtain ⟨y0, y1, y2, y3, y4, y5, y6, y7, y8, y9, ya, yb⟩ := cells12 RE RA RB
      have F := leaf_fin (f := T) hw hB (Nat.le_succ _) RR hb (by rw [← HTT.out]; unfold foldTwo; simp [HN.out, HB0.out, HB1.out, HA0.out])
      go_wp2_with fail
      refine bodyPost_ret (by simp [results, Tryd.results48, go_sem, s0, s1, s2, s3]) rfl F.out
   case true =>
    obtain ⟨s0, s1, s2, s3, f0, f1, f2, f3⟩ := cells8 RR
    obtain ⟨y0, y1, y2, y3, y4, y5, y6, y7, y8, y9, ya, yb⟩ := cells12 RE RA RB
    have F := leaf_fin (f := T) hw hB (Nat.le_succ _) RR ha (by rw [← HTT.out]; unfold foldTwo; simp [HN.out, HB0.out])
    go_wp2_with fail
    refine bodyPost_ret (by simp [results, Tryd.results48, go_sem, s0, s1, s2, s3]) rfl F.out
  by_cases qb : bop = 1
  case neg =>
   have qb' : (bop == 1) = false := by simpa using qb
   have HN : Hid (numB 3 (Ex.mk aop an aname akids) (Ex.mk bop bn bname bkids) = false) := by show _ = _; simp [numB, Ex.op, qb]
   subst qa
   clear qb
   obtain ⟨y0, y1, y2, y3, y4, y5, y6, y7, y8, y9, ya, yb⟩ := cells12 RE RA RB
   go_wp2_with fail
   refine (spec_l6Is bop bn bname (.slice A4 bkids.length p4) 0 _ bkids ⟨_, _, rfl⟩).mono ?_
   rw [HB0.out]
   rintro e w8 ⟨rfl, x8⟩
   clear y0 y1 y2 y3 y4 y5 y6 y7 y8 y9 ya yb
   replace hw := hw.trans (x8.mono hw.size)
   replace RE := RE.below x8 RE.lt
   replace RR := RR.below x8 RR.lt
   replace RA := RA.below x8 RA.lt
   replace RB := RB.below x8 RB.lt
   cases vB0
   case false =>
    obtain ⟨y0, y1, y2, y3, y4, y5, y6, y7, y8, y9, ya, yb⟩ := cells12 RE RA RB
    go_wp2_with fail
    refine (spec_l6Is bop bn bname (.slice A4 bkids.length p4) 1 _ bkids ⟨_, _, rfl⟩).mono ?_
    rw [HB1.out]
    rintro e w9 ⟨rfl, x9⟩
    clear y0 y1 y2 y3 y4 y5 y6 y7 y8 y9 ya yb
    replace hw := hw.trans (x9.mono hw.size)
    replace RE := RE.below x9 RE.lt
    replace RR := RR.below x9 RR.lt
    replace RA := RA.below x9 RA.lt
    replace RB := RB.below x9 RB.lt
    cases vB1
    case false =>
     obtain ⟨y0, y1, y2, y3, y4, y5, y6, y7, y8, y9, ya, yb⟩ := cells12 RE RA RB
     go_wp2_with fail
     refine (spec_l6Is 1 an aname (.slice A3 akids.length p3) 0 _ akids ⟨_, _, rfl⟩).mono ?_
     rw [HA0.out]
     rintro e w10 ⟨rfl, x10⟩
     clear y0 y1 y2 y3 y4 y5 y6 y7 y8 y9 ya yb
     replace hw := hw.trans (x10.mono hw.size)
     replace RE := RE.below x10 RE.lt
     replace RR := RR.below x10 RR.lt
     replace RA := RA.below x10 RA.lt
     replace RB := RB.below x10 RB.lt
     cases vA0
     case false =>
      obtain ⟨y0, y1, y2, y3, y4, y5, y6, y7, y8, y9, ya, yb⟩ := cells12 RE RA RB
      go_wp2_with fail
      refine (spec_l6Is 1 an aname (.slice A3 akids.length p3) 1 _ akids ⟨_, _, rfl⟩).mono ?_
      rw [HA1.out]
      rintro e w11 ⟨rfl, x11⟩
      clear y0 y1 y2 y3 y4 y5 y6 y7 y8 y9 ya yb
      replace hw := hw.trans (x11.mono hw.size)
      replace RE := RE.below x11 RE.lt
      replace RR := RR.below x11 RR.lt
      replace RA := RA.below x11 RA.lt
      replace RB := RB.below x11 RB.lt
      cases vA1
      case false =>
       obtain ⟨s0, s1, s2, s3, f0, f1, f2, f3⟩ := cells8 RR
       obtain ⟨y0, y1, y2, y3, y4, y5, y6, y7, y8, y9, ya, yb⟩ := cells12 RE RA RB
       have F := leaf_fin (f := T) hw hB (Nat.le_succ _) RR he (by rw [← HTT.out]; unfold foldTwo; simp [HN.out, HB0.out, HB1.out, HA0.out, HA1.out])
       go_wp2_with fail
       refine bodyPost_ret (by simp [results, Tryd.results48, go_sem, s0, s1, s2, s3]) rfl F.out
      case true =>
       obtain ⟨s0, s1, s2, s3, f0, f1, f2, f3⟩ := cells8 RR
       obtain ⟨y0, y1, y2, y3, y4, y5, y6, y7, y8, y9, ya, yb⟩ := cells12 RE RA RB
       have F := leaf_fin (f := T) hw hB (Nat.le_succ _) RR he (by rw [← HTT.out]; unfold foldTwo; simp [HN.out, HB0.out, HB1.out, HA0.out, HA1.out])
       go_wp2_with fail
       refine bodyPost_ret (by simp [results, Tryd.results48, go_sem, s0, s1, s2, s3]) rfl F.out
     case true =>
      obtain ⟨s0, s1, s2, s3, f0, f1, f2, f3⟩ := cells8 RR
      obtain ⟨y0, y1, y2, y3, y4, y5, y6, y7, y8, y9, ya, yb⟩ := cells12 RE RA RB
      have F := leaf_fin (f := T) hw hB (Nat.le_succ _) RR hb (by rw [← HTT.out]; unfold foldTwo; simp [HN.out, HB0.out, HB1.out, HA0.out])
      go_wp2_with fail
      refine bodyPost_ret (by simp [results, Tryd.results48, go_sem, s0, s1, s2, s3]) rfl F.out
    case true =>
     obtain ⟨y0, y1, y2, y3, y4, y5, y6, y7, y8, y9, ya, yb⟩ := cells12 RE RA RB
     go_wp2_with fail
     refine (spec_l6Is 1 an aname (.slice A3 akids.length p3) 0 _ akids ⟨_, _, rfl⟩).mono ?_
     rw [HA0.out]
     rintro e w10 ⟨rfl, x10⟩
     clear y0 y1 y2 y3 y4 y5 y6 y7 y8 y9 ya yb
     replace hw := hw.trans (x10.mono hw.size)
     replace RE := RE.below x10 RE.lt
     replace RR := RR.below x10 RR.lt
     replace RA := RA.below x10 RA.lt
     replace RB := RB.below x10 RB.lt
     cases vA0
     case false =>
      obtain ⟨y0, y1, y2, y3, y4, y5, y6, y7, y8, y9, ya, yb⟩ := cells12 RE RA RB
      go_wp2_with fail
      refine (spec_l6Is 1 an aname (.slice A3 akids.length p3) 1 _ akids ⟨_, _, rfl⟩).mono ?_
      rw [HA1.out]
      rintro e w11 ⟨rfl, x11⟩
      clear y0 y1 y2 y3 y4 y5 y6 y7 y8 y9 ya yb
      replace hw := hw.trans (x11.mono hw.size)
      replace RE := RE.below x11 RE.lt
      replace RR := RR.below x11 RR.lt
      replace RA := RA.below x11 RA.lt
      replace RB := RB.below x11 RB.lt
      cases vA1
      case false =>
       obtain ⟨s0, s1, s2, s3, f0, f1, f2, f3⟩ := cells8 RR
       obtain ⟨y0, y1, y2, y3, y4, y5, y6, y7, y8, y9, ya, yb⟩ := cells12 RE RA RB
       have F := leaf_fin (f := T) hw hB (Nat.le_succ _) RR he (by rw [← HTT.out]; unfold foldTwo; simp [HN.out, HB0.out, HB1.out, HA0.out, HA1.out])
       go_wp2_with fail
       refine bodyPost_ret (by simp [results, Tryd.results48, go_sem, s0, s1, s2, s3]) rfl F.out
      case true =>
       obtain ⟨s0, s1, s2, s3, f0, f1, f2, f3⟩ := cells8 RR
       obtain ⟨y0, y1, y2, y3, y4, y5, y6, y7, y8, y9, ya, yb⟩ := cells12 RE RA RB
       have F := leaf_fin (f := T) hw hB (Nat.le_succ _) RR he (by rw [← HTT.out]; unfold foldTwo; simp [HN.out, HB0.out, HB1.out, HA0.out, HA1.out])
       go_wp2_with fail
       refine bodyPost_ret (by simp [results, Tryd.results48, go_sem, s0, s1, s2, s3]) rfl F.out
     case true =>
      obtain ⟨s0, s1, s2, s3, f0, f1, f2, f3⟩ := cells8 RR
      obtain ⟨y0, y1, y2, y3, y4, y5, y6, y7, y8, y9, ya, yb⟩ := cells12 RE RA RB
      have F := leaf_fin (f := T) hw hB (Nat.le_succ _) RR hb (by rw [← HTT.out]; unfold foldTwo; simp [HN.out, HB0.out, HB1.out, HA0.out])
      go_wp2_with fail
      refine bodyPost_ret (by simp [results, Tryd.results48, go_sem, s0, s1, s2, s3]) rfl F.out
   case true =>
    obtain ⟨s0, s1, s2, s3, f0, f1, f2, f3⟩ := cells8 RR
    obtain ⟨y0, y1, y2, y3, y4, y5, y6, y7, y8, y9, ya, yb⟩ := cells12 RE RA RB
    have F := leaf_fin (f := T) hw hB (Nat.le_succ _) RR ha (by rw [← HTT.out]; unfold foldTwo; simp [HN.out, HB0.out])
    go_wp2_with fail
    refine bodyPost_ret (by simp [results, Tryd.results48, go_sem, s0, s1, s2, s3]) rfl F.out
  subst qa qb
  obtain ⟨an0, an1⟩ := ra rfl
  obtain ⟨bn0, bn1⟩ := rb rfl
  clear ra rb
  have hv : (arV 3 an bn).2 = true := by simp [arV]
  have HN : Hid (numB 3 (Ex.mk 1 an aname akids) (Ex.mk 1 bn bname bkids) = true) := by show _ = _; simp [numB, Ex.op, Ex.n, hv]
  have HV := Lib.hid (show endC (arV 3 an bn).2 = 0 by rw [hv]; rfl)
  have hI : I64 (arV 3 an bn).1 := by
    have := arV_range (op := 3) an0 an1 bn0 bn1
    exact ⟨by omega, by omega⟩
  clear hv
  obtain ⟨y0, y1, y2, y3, y4, y5, y6, y7, y8, y9, ya, yb⟩ := cells12 RE RA RB
  go_wp2_with fail
  refine (spec_l5Eval_two (d + 1) 3 n name [(Ex.mk 1 an aname akids), (Ex.mk 1 bn bname bkids)] _ p _ lo B an bn aname bname akids bkids (Nat.le_trans hB hw.size) (h3s.below hw hB) rfl an0 an1 bn0 bn1 (by omega) (by omega)).mono ?_
  rw [HV.out]
  rintro e w8 ⟨rfl, x8⟩
  clear y0 y1 y2 y3 y4 y5 y6 y7 y8 y9 ya yb
  replace hw := hw.trans (x8.mono hw.size)
  replace RE := RE.below x8 RE.lt
  replace RR := RR.below x8 RR.lt
  replace RA := RA.below x8 RA.lt
  replace RB := RB.below x8 RB.lt
  obtain ⟨y0, y1, y2, y3, y4, y5, y6, y7, y8, y9, ya, yb⟩ := cells12 RE RA RB
  go_wp2_with fail
  refine (spec_num (d + 1) ((arV 3 an bn).1) _ hI).mono ?_
  rintro e w9 ⟨An, cn, rfl, hnr, x9⟩
  clear y0 y1 y2 y3 y4 y5 y6 y7 y8 y9 ya yb
  replace hw := hw.trans (x9.mono hw.size)
  replace RE := RE.below x9 RE.lt
  replace RR := RR.below x9 RR.lt
  replace RA := RA.below x9 RA.lt
  replace RB := RB.below x9 RB.lt
  obtain ⟨s0, s1, s2, s3, f0, f1, f2, f3⟩ := cells8 RR
  obtain ⟨y0, y1, y2, y3, y4, y5, y6, y7, y8, y9, ya, yb⟩ := cells12 RE RA RB
  have F := leaf_fin (f := T) hw hB (Nat.le_succ _) RR (hnr w lo B) (show T = exN1 ((arV 3 an bn).1) by rw [← HTT.out]; unfold foldTwo; rw [if_pos HN.out]; rfl)
  go_wp2_with fail
  refine bodyPost_ret (by simp [results, Tryd.results48, go_sem, s0, s1, s2, s3]) rfl F.out
end Go.Proofs.YthfinoapfbhgcaaDoor

namespace Go.Proofs.YthfinoapfbhgcaaDoor
open Go.RowKit Go.ChangeShapes Go.WideShapes Go.Deep
set_option linter.unusedVariables false
set_option linter.unusedSimpArgs false
set_option maxRecDepth 100000 in
set_option maxHeartbeats 16000000 in
theorem spec_l6Part_4 (d : Nat) (n : Int) (name : ByteArray) (aop an : Int) (aname : ByteArray) (akids : List Ex) (bop bn : Int) (bname : ByteArray) (bkids : List Ex) (A : Option Addr) (p : Nat) (w : World) (lo B : Nat) (hB : B ≤ w.heap.size) (hn : I64 n) (hnm : name.size ≤ maxLen)
    (h3 : ∀ m, SlT m (exT m (d + 1)) w lo B [.mk aop an aname akids, .mk bop bn bname bkids] (.slice A 2 p)) (ra : aop = 1 → 0 ≤ an ∧ an ≤ 255) (rb : bop = 1 → 0 ≤ bn ∧ bn ≤ 255) (fa : formB 6 (.mk aop an aname akids) = true) (fb : formB 6 (.mk bop bn bname bkids) = true) :
    Calls Tryd.prog 48 #[.agg #[.int .i64 4, .int .i64 n, .string name, .slice A 2 p]] w (FoldRP (d + 1) (foldTwo 4 (Ex.mk aop an aname akids) (Ex.mk bop bn bname bkids) (Ex.mk 4 n name [(Ex.mk aop an aname akids), (Ex.mk bop bn bname bkids)])) lo B w) := by
  obtain ⟨blk, op1, n1, nm1, k1, A3, p3, rfl, hlb, hbB, HL1, oa, na, sa, ha', c0, c1, c2, c3⟩ := exT_get d h3 (show 0 < 2 by omega)
  have e1 := HL1.out
  injection e1 with e1 e2 e3 e4
  subst e1 e2 e3 e4
  obtain ⟨blk', op2, n2, nm2, k2, A4, p4, hA, _, _, HL2, ob, nb, sb, hb', c4, c5, c6, c7⟩ := exT_get d h3 (show 1 < 2 by omega)
  injection hA with hA
  injection hA with hA
  subst hA
  have e1 := HL2.out
  injection e1 with e1 e2 e3 e4
  subst e1 e2 e3 e4
  have he : ∀ m, (exT m (d + 1 + 1)).rep w lo B (Ex.mk 4 n name [(Ex.mk aop an aname akids), (Ex.mk bop bn bname bkids)]) [.int .i64 4, .int .i64 n, .string name, .slice (some ⟨blk, 0, none⟩) 2 p] := fun m => exT_mk m (d + 1) 4 n name _ _ ⟨by omega, by omega⟩ hn hnm (h3 m)
  have ha : ∀ m, (exT m (d + 1 + 1)).rep w lo B (Ex.mk aop an aname akids) [.int .i64 aop, .int .i64 an, .string aname, .slice A3 akids.length p3] := fun m => exT_le m (Nat.le_succ _) (ha' m)
  have hb : ∀ m, (exT m (d + 1 + 1)).rep w lo B (Ex.mk bop bn bname bkids) [.int .i64 bop, .int .i64 bn, .string bname, .slice A4 bkids.length p4] := fun m => exT_le m (Nat.le_succ _) (hb' m)
  have ska : Sl false (exS false d) w lo B akids (.slice A3 akids.length p3) := (exT_kids d (ha' false)).exS
  have skb : Sl false (exS false d) w lo B bkids (.slice A4 bkids.length p4) := (exT_kids d (hb' false)).exS
  have h3s : Sl false (exS false (d + 1)) w lo B [(Ex.mk aop an aname akids), (Ex.mk bop bn bname bkids)] (.slice (some ⟨blk, 0, none⟩) 2 p) := (h3 false).exS
  clear ha' hb' h3 HL1 HL2
  obtain ⟨T, hTT⟩ : ∃ T, foldTwo 4 (Ex.mk aop an aname akids) (Ex.mk bop bn bname bkids) (Ex.mk 4 n name [(Ex.mk aop an aname akids), (Ex.mk bop bn bname bkids)]) = T := ⟨_, rfl⟩
  rw [hTT]
  have HTT := Lib.hid hTT
  clear hTT
  have hblk : blk < w.heap.size := by omega
  obtain ⟨vA0, hvA0⟩ : ∃ v, isN (Ex.mk aop an aname akids) 0 = v := ⟨_, rfl⟩
  obtain ⟨vA1, hvA1⟩ : ∃ v, isN (Ex.mk aop an aname akids) 1 = v := ⟨_, rfl⟩
  obtain ⟨vB0, hvB0⟩ : ∃ v, isN (Ex.mk bop bn bname bkids) 0 = v := ⟨_, rfl⟩
  obtain ⟨vB1, hvB1⟩ : ∃ v, isN (Ex.mk bop bn bname bkids) 1 = v := ⟨_, rfl⟩
  obtain ⟨vSA, hvSA⟩ : ∃ v, safeE 6 (Ex.mk aop an aname akids) = v := ⟨_, rfl⟩
  obtain ⟨vSB, hvSB⟩ : ∃ v, safeE 6 (Ex.mk bop bn bname bkids) = v := ⟨_, rfl⟩
  have HA0 := Lib.hid hvA0
  have HA1 := Lib.hid hvA1
  have HB0 := Lib.hid hvB0
  have HB1 := Lib.hid hvB1
  have HSA := Lib.hid hvSA
  have HSB := Lib.hid hvSB
  clear hvA0 hvA1 hvB0 hvB1 hvSA hvSB

  have hw : Below w.heap.size w ((w.alloc (.cells #[.int .i64 4, .int .i64 n, .string name, .slice (some ⟨blk, 0, none⟩) 2 p] 25)).alloc (.cells #[.int .i64 0, .int .i64 0, .string ⟨#[]⟩, .slice none 0 0] 25)) := ((Below.refl _ _).alloc (Nat.le_refl _) _).alloc (by simp) _
  have RE : Row _ w.heap.size 25 #[.int .i64 4, .int .i64 n, .string name, .slice (some ⟨blk, 0, none⟩) 2 p] := (Row.new w _ _).alloc (.cells #[.int .i64 0, .int .i64 0, .string ⟨#[]⟩, .slice none 0 0] 25)
  have RR : Row ((w.alloc (.cells #[.int .i64 4, .int .i64 n, .string name, .slice (some ⟨blk, 0, none⟩) 2 p] 25)).alloc (.cells #[.int .i64 0, .int .i64 0, .string ⟨#[]⟩, .slice none 0 0] 25)) (w.heap.size + 1) 25 #[.int .i64 0, .int .i64 0, .string ⟨#[]⟩, .slice none 0 0] := by simpa using Row.new (w.alloc (.cells #[.int .i64 4, .int .i64 n, .string name, .slice (some ⟨blk, 0, none⟩) 2 p] 25)) 25 #[.int .i64 0, .int .i64 0, .string ⟨#[]⟩, .slice none 0 0]
  go_enter Tryd.func48, Tryd.ntmps48
  go_wp2_with fail
  refine (spec_l1In 4 3 10 _).mono ?_
  rw [show inB 4 3 10 = true from by decide]
  rintro e w5 ⟨rfl, hw5⟩
  rw [hw5] at hw RE RR
  clear hw5
  obtain ⟨k0, k1, k2, k3, k4, k5, k6, k7⟩ := kids8 hw hblk c0 c1 c2 c3 c4 c5 c6 c7
  obtain ⟨z0, z1, z2, z3⟩ := cells4 RE
  have y_6 := (Below.refl _ w5).alloc (Nat.le_refl _) (.cells #[.int .i64 aop, .int .i64 an, .string aname, .slice A3 akids.length p3] 25)
  replace hw := hw.trans (y_6.mono hw.size)
  replace RE := RE.below y_6 RE.lt
  replace RR := RR.below y_6 RR.lt
  have RA : Row _ _ _ #[.int .i64 aop, .int .i64 an, .string aname, .slice A3 akids.length p3] := Row.new w5 25 _
  obtain ⟨l0, l1, l2, l3, l4, l5, l6, l7⟩ := kids8 hw hblk c0 c1 c2 c3 c4 c5 c6 c7
  obtain ⟨t0, t1, t2, t3⟩ := cells4 RE
  have y_7 := (Below.refl _ (w5.alloc (.cells #[.int .i64 aop, .int .i64 an, .string aname, .slice A3 akids.length p3] 25))).alloc (Nat.le_refl _) (.cells #[.int .i64 bop, .int .i64 bn, .string bname, .slice A4 bkids.length p4] 25)
  replace hw := hw.trans (y_7.mono hw.size)
  replace RE := RE.below y_7 RE.lt
  replace RR := RR.below y_7 RR.lt
  replace RA := RA.below y_7 RA.lt
  have RB : Row ((w5.alloc (.cells #[.int .i64 aop, .int .i64 an, .string aname, .slice A3 akids.length p3] 25)).alloc (.cells #[.int .i64 bop, .int .i64 bn, .string bname, .slice A4 bkids.length p4] 25)) (w5.heap.size + 1) 25 #[.int .i64 bop, .int .i64 bn, .string bname, .slice A4 bkids.length p4] := by simpa using Row.new (w5.alloc (.cells #[.int .i64 aop, .int .i64 an, .string aname, .slice A3 akids.length p3] 25)) 25 #[.int .i64 bop, .int .i64 bn, .string bname, .slice A4 bkids.length p4]
  clear c0 c1 c2 c3 c4 c5 c6 c7
  by_cases qa : aop = 1
  case neg =>
   have qa' : (aop == 1) = false := by simpa using qa
   have HN : Hid (numB 4 (Ex.mk aop an aname akids) (Ex.mk bop bn bname bkids) = false) := by show _ = _; simp [numB, Ex.op, qa]
   clear qa
   obtain ⟨y0, y1, y2, y3, y4, y5, y6, y7, y8, y9, ya, yb⟩ := cells12 RE RA RB
   go_wp2_with fail
   refine (spec_l6Is bop bn bname (.slice A4 bkids.length p4) 0 _ bkids ⟨_, _, rfl⟩).mono ?_
   rw [HB0.out]
   rintro e w8 ⟨rfl, x8⟩
   clear y0 y1 y2 y3 y4 y5 y6 y7 y8 y9 ya yb
   replace hw := hw.trans (x8.mono hw.size)
   replace RE := RE.below x8 RE.lt
   replace RR := RR.below x8 RR.lt
   replace RA := RA.below x8 RA.lt
   replace RB := RB.below x8 RB.lt
   cases vB0
   case false =>
    obtain ⟨y0, y1, y2, y3, y4, y5, y6, y7, y8, y9, ya, yb⟩ := cells12 RE RA RB
    go_wp2_with fail
    refine (spec_l6Is bop bn bname (.slice A4 bkids.length p4) 1 _ bkids ⟨_, _, rfl⟩).mono ?_
    rw [HB1.out]
    rintro e w9 ⟨rfl, x9⟩
    clear y0 y1 y2 y3 y4 y5 y6 y7 y8 y9 ya yb
    replace hw := hw.trans (x9.mono hw.size)
    replace RE := RE.below x9 RE.lt
    replace RR := RR.below x9 RR.lt
    replace RA := RA.below x9 RA.lt
    replace RB := RB.below x9 RB.lt
    cases vB1
    case false =>
     obtain ⟨y0, y1, y2, y3, y4, y5, y6, y7, y8, y9, ya, yb⟩ := cells12 RE RA RB
     go_wp2_with fail
     refine (spec_l6Is aop an aname (.slice A3 akids.length p3) 0 _ akids ⟨_, _, rfl⟩).mono ?_
     rw [HA0.out]
     rintro e w10 ⟨rfl, x10⟩
     clear y0 y1 y2 y3 y4 y5 y6 y7 y8 y9 ya yb
     replace hw := hw.trans (x10.mono hw.size)
     replace RE := RE.below x10 RE.lt
     replace RR := RR.below x10 RR.lt
     replace RA := RA.below x10 RA.lt
     replace RB := RB.below x10 RB.lt
     cases vA0
     case false =>
      obtain ⟨y0, y1, y2, y3, y4, y5, y6, y7, y8, y9, ya, yb⟩ := cells12 RE RA RB
      go_wp2_with fail
      refine (spec_l6Is aop an aname (.slice A3 akids.length p3) 1 _ akids ⟨_, _, rfl⟩).mono ?_
      rw [HA1.out]
      rintro e w11 ⟨rfl, x11⟩
      clear y0 y1 y2 y3 y4 y5 y6 y7 y8 y9 ya yb
      replace hw := hw.trans (x11.mono hw.size)
      replace RE := RE.below x11 RE.lt
      replace RR := RR.below x11 RR.lt
      replace RA := RA.below x11 RA.lt
      replace RB := RB.below x11 RB.lt
      cases vA1
      case false =>
       obtain ⟨s0, s1, s2, s3, f0, f1, f2, f3⟩ := cells8 RR
       obtain ⟨y0, y1, y2, y3, y4, y5, y6, y7, y8, y9, ya, yb⟩ := cells12 RE RA RB
       have F := leaf_fin (f := T) hw hB (Nat.le_succ _) RR he (by rw [← HTT.out]; unfold foldTwo; simp [HN.out, HB0.out, HB1.out, HA0.out, HA1.out])
       go_wp2_with fail
       refine bodyPost_ret (by simp [results, Tryd.results48, go_sem, s0, s1, s2, s3]) rfl F.out
      case true =>
       obtain ⟨s0, s1, s2, s3, f0, f1, f2, f3⟩ := cells8 RR
       obtain ⟨y0, y1, y2, y3, y4, y5, y6, y7, y8, y9, ya, yb⟩ := cells12 RE RA RB
       have F := leaf_fin (f := T) hw hB (Nat.le_succ _) RR he (by rw [← HTT.out]; unfold foldTwo; simp [HN.out, HB0.out, HB1.out, HA0.out, HA1.out])
       go_wp2_with fail
       refine bodyPost_ret (by simp [results, Tryd.results48, go_sem, s0, s1, s2, s3]) rfl F.out
     case true =>
      obtain ⟨y0, y1, y2, y3, y4, y5, y6, y7, y8, y9, ya, yb⟩ := cells12 RE RA RB
      go_wp2_with fail
      refine (spec_l6Is aop an aname (.slice A3 akids.length p3) 1 _ akids ⟨_, _, rfl⟩).mono ?_
      rw [HA1.out]
      rintro e w11 ⟨rfl, x11⟩
      clear y0 y1 y2 y3 y4 y5 y6 y7 y8 y9 ya yb
      replace hw := hw.trans (x11.mono hw.size)
      replace RE := RE.below x11 RE.lt
      replace RR := RR.below x11 RR.lt
      replace RA := RA.below x11 RA.lt
      replace RB := RB.below x11 RB.lt
      cases vA1
      case false =>
       obtain ⟨s0, s1, s2, s3, f0, f1, f2, f3⟩ := cells8 RR
       obtain ⟨y0, y1, y2, y3, y4, y5, y6, y7, y8, y9, ya, yb⟩ := cells12 RE RA RB
       have F := leaf_fin (f := T) hw hB (Nat.le_succ _) RR he (by rw [← HTT.out]; unfold foldTwo; simp [HN.out, HB0.out, HB1.out, HA0.out, HA1.out])
       go_wp2_with fail
       refine bodyPost_ret (by simp [results, Tryd.results48, go_sem, s0, s1, s2, s3]) rfl F.out
      case true =>
       obtain ⟨s0, s1, s2, s3, f0, f1, f2, f3⟩ := cells8 RR
       obtain ⟨y0, y1, y2, y3, y4, y5, y6, y7, y8, y9, ya, yb⟩ := cells12 RE RA RB
       have F := leaf_fin (f := T) hw hB (Nat.le_succ _) RR he (by rw [← HTT.out]; unfold foldTwo; simp [HN.out, HB0.out, HB1.out, HA0.out, HA1.out])
       go_wp2_with fail
       refine bodyPost_ret (by simp [results, Tryd.results48, go_sem, s0, s1, s2, s3]) rfl F.out
    case true =>
     obtain ⟨y0, y1, y2, y3, y4, y5, y6, y7, y8, y9, ya, yb⟩ := cells12 RE RA RB
     go_wp2_with fail
     refine (spec_l6Is aop an aname (.slice A3 akids.length p3) 0 _ akids ⟨_, _, rfl⟩).mono ?_
     rw [HA0.out]
     rintro e w10 ⟨rfl, x10⟩
     clear y0 y1 y2 y3 y4 y5 y6 y7 y8 y9 ya yb
     replace hw := hw.trans (x10.mono hw.size)
     replace RE := RE.below x10 RE.lt
     replace RR := RR.below x10 RR.lt
     replace RA := RA.below x10 RA.lt
     replace RB := RB.below x10 RB.lt
     cases vA0
     case false =>
      obtain ⟨y0, y1, y2, y3, y4, y5, y6, y7, y8, y9, ya, yb⟩ := cells12 RE RA RB
      go_wp2_with fail
      refine (spec_l6Is aop an aname (.slice A3 akids.length p3) 1 _ akids ⟨_, _, rfl⟩).mono ?_
      rw [HA1.out]
      rintro e w11 ⟨rfl, x11⟩
      clear y0 y1 y2 y3 y4 y5 y6 y7 y8 y9 ya yb
      replace hw := hw.trans (x11.mono hw.size)
      replace RE := RE.below x11 RE.lt
      replace RR := RR.below x11 RR.lt
      replace RA := RA.below x11 RA.lt
      replace RB := RB.below x11 RB.lt
      cases vA1
      case false =>
       obtain ⟨s0, s1, s2, s3, f0, f1, f2, f3⟩ := cells8 RR
       obtain ⟨y0, y1, y2, y3, y4, y5, y6, y7, y8, y9, ya, yb⟩ := cells12 RE RA RB
       have F := leaf_fin (f := T) hw hB (Nat.le_succ _) RR he (by rw [← HTT.out]; unfold foldTwo; simp [HN.out, HB0.out, HB1.out, HA0.out, HA1.out])
       go_wp2_with fail
       refine bodyPost_ret (by simp [results, Tryd.results48, go_sem, s0, s1, s2, s3]) rfl F.out
      case true =>
       obtain ⟨s0, s1, s2, s3, f0, f1, f2, f3⟩ := cells8 RR
       obtain ⟨y0, y1, y2, y3, y4, y5, y6, y7, y8, y9, ya, yb⟩ := cells12 RE RA RB
       have F := leaf_fin (f := T) hw hB (Nat.le_succ _) RR he (by rw [← HTT.out]; unfold foldTwo; simp [HN.out, HB0.out, HB1.out, HA0.out, HA1.out])
       go_wp2_with fail
       refine bodyPost_ret (by simp [results, Tryd.results48, go_sem, s0, s1, s2, s3]) rfl F.out
     case true =>
      obtain ⟨y0, y1, y2, y3, y4, y5, y6, y7, y8, y9, ya, yb⟩ := cells12 RE RA RB
      go_wp2_with fail
      refine (spec_l6Is aop an aname (.slice A3 akids.length p3) 1 _ akids ⟨_, _, rfl⟩).mono ?_
      rw [HA1.out]
      rintro e w11 ⟨rfl, x11⟩
      clear y0 y1 y2 y3 y4 y5 y6 y7 y8 y9 ya yb
      replace hw := hw.trans (x11.mono hw.size)
      replace RE := RE.below x11 RE.lt
      replace RR := RR.below x11 RR.lt
      replace RA := RA.below x11 RA.lt
      replace RB := RB.below x11 RB.lt
      cases vA1
      case false =>
       obtain ⟨s0, s1, s2, s3, f0, f1, f2, f3⟩ := cells8 RR
       obtain ⟨y0, y1, y2, y3, y4, y5, y6, y7, y8, y9, ya, yb⟩ := cells12 RE RA RB
       have F := leaf_fin (f := T) hw hB (Nat.le_succ _) RR he (by rw [← HTT.out]; unfold foldTwo; simp [HN.out, HB0.out, HB1.out, HA0.out, HA1.out])
       go_wp2_with fail
       refine bodyPost_ret (by simp [results, Tryd.results48, go_sem, s0, s1, s2, s3]) rfl F.out
      case true =>
       obtain ⟨s0, s1, s2, s3, f0, f1, f2, f3⟩ := cells8 RR
       obtain ⟨y0, y1, y2, y3, y4, y5, y6, y7, y8, y9, ya, yb⟩ := cells12 RE RA RB
       have F := leaf_fin (f := T) hw hB (Nat.le_succ _) RR he (by rw [← HTT.out]; unfold foldTwo; simp [HN.out, HB0.out, HB1.out, HA0.out, HA1.out])
       go_wp2_with fail
       refine bodyPost_ret (by simp [results, Tryd.results48, go_sem, s0, s1, s2, s3]) rfl F.out
   case true =>
    obtain ⟨s0, s1, s2, s3, f0, f1, f2, f3⟩ := cells8 RR
    obtain ⟨y0, y1, y2, y3, y4, y5, y6, y7, y8, y9, ya, yb⟩ := cells12 RE RA RB
    have F := leaf_fin (f := T) hw hB (Nat.le_succ _) RR ha (by rw [← HTT.out]; unfold foldTwo; simp [HN.out, HB0.out])
    go_wp2_with fail
    refine bodyPost_ret (by simp [results, Tryd.results48, go_sem, s0, s1, s2, s3]) rfl F.out
  by_cases qb : bop = 1
  case neg =>
   have qb' : (bop == 1) = false := by simpa using qb
   have HN : Hid (numB 4 (Ex.mk aop an aname akids) (Ex.mk bop bn bname bkids) = false) := by show _ = _; simp [numB, Ex.op, qb]
   subst qa
   clear qb
   obtain ⟨y0, y1, y2, y3, y4, y5, y6, y7, y8, y9, ya, yb⟩ := cells12 RE RA RB
   go_wp2_with fail
   refine (spec_l6Is bop bn bname (.slice A4 bkids.length p4) 0 _ bkids ⟨_, _, rfl⟩).mono ?_
   rw [HB0.out]
   rintro e w8 ⟨rfl, x8⟩
   clear y0 y1 y2 y3 y4 y5 y6 y7 y8 y9 ya yb
   replace hw := hw.trans (x8.mono hw.size)
   replace RE := RE.below x8 RE.lt
   replace RR := RR.below x8 RR.lt
   replace RA := RA.below x8 RA.lt
   replace RB := RB.below x8 RB.lt
   cases vB0
   case false =>
    obtain ⟨y0, y1, y2, y3, y4, y5, y6, y7, y8, y9, ya, yb⟩ := cells12 RE RA RB
    go_wp2_with fail
    refine (spec_l6Is bop bn bname (.slice A4 bkids.length p4) 1 _ bkids ⟨_, _, rfl⟩).mono ?_
    rw [HB1.out]
    rintro e w9 ⟨rfl, x9⟩
    clear y0 y1 y2 y3 y4 y5 y6 y7 y8 y9 ya yb
    replace hw := hw.trans (x9.mono hw.size)
    replace RE := RE.below x9 RE.lt
    replace RR := RR.below x9 RR.lt
    replace RA := RA.below x9 RA.lt
    replace RB := RB.below x9 RB.lt
    cases vB1
    case false =>
     obtain ⟨y0, y1, y2, y3, y4, y5, y6, y7, y8, y9, ya, yb⟩ := cells12 RE RA RB
     go_wp2_with fail
     refine (spec_l6Is 1 an aname (.slice A3 akids.length p3) 0 _ akids ⟨_, _, rfl⟩).mono ?_
     rw [HA0.out]
     rintro e w10 ⟨rfl, x10⟩
     clear y0 y1 y2 y3 y4 y5 y6 y7 y8 y9 ya yb
     replace hw := hw.trans (x10.mono hw.size)
     replace RE := RE.below x10 RE.lt
     replace RR := RR.below x10 RR.lt
     replace RA := RA.below x10 RA.lt
     replace RB := RB.below x10 RB.lt
     cases vA0
     case false =>
      obtain ⟨y0, y1, y2, y3, y4, y5, y6, y7, y8, y9, ya, yb⟩ := cells12 RE RA RB
      go_wp2_with fail
      refine (spec_l6Is 1 an aname (.slice A3 akids.length p3) 1 _ akids ⟨_, _, rfl⟩).mono ?_
      rw [HA1.out]
      rintro e w11 ⟨rfl, x11⟩
      clear y0 y1 y2 y3 y4 y5 y6 y7 y8 y9 ya yb
      replace hw := hw.trans (x11.mono hw.size)
      replace RE := RE.below x11 RE.lt
      replace RR := RR.below x11 RR.lt
      replace RA := RA.below x11 RA.lt
      replace RB := RB.below x11 RB.lt
      cases vA1
      case false =>
       obtain ⟨s0, s1, s2, s3, f0, f1, f2, f3⟩ := cells8 RR
       obtain ⟨y0, y1, y2, y3, y4, y5, y6, y7, y8, y9, ya, yb⟩ := cells12 RE RA RB
       have F := leaf_fin (f := T) hw hB (Nat.le_succ _) RR he (by rw [← HTT.out]; unfold foldTwo; simp [HN.out, HB0.out, HB1.out, HA0.out, HA1.out])
       go_wp2_with fail
       refine bodyPost_ret (by simp [results, Tryd.results48, go_sem, s0, s1, s2, s3]) rfl F.out
      case true =>
       obtain ⟨s0, s1, s2, s3, f0, f1, f2, f3⟩ := cells8 RR
       obtain ⟨y0, y1, y2, y3, y4, y5, y6, y7, y8, y9, ya, yb⟩ := cells12 RE RA RB
       have F := leaf_fin (f := T) hw hB (Nat.le_succ _) RR he (by rw [← HTT.out]; unfold foldTwo; simp [HN.out, HB0.out, HB1.out, HA0.out, HA1.out])
       go_wp2_with fail
       refine bodyPost_ret (by simp [results, Tryd.results48, go_sem, s0, s1, s2, s3]) rfl F.out
     case true =>
      obtain ⟨y0, y1, y2, y3, y4, y5, y6, y7, y8, y9, ya, yb⟩ := cells12 RE RA RB
      go_wp2_with fail
      refine (spec_l6Is 1 an aname (.slice A3 akids.length p3) 1 _ akids ⟨_, _, rfl⟩).mono ?_
      rw [HA1.out]
      rintro e w11 ⟨rfl, x11⟩
      clear y0 y1 y2 y3 y4 y5 y6 y7 y8 y9 ya yb
      replace hw := hw.trans (x11.mono hw.size)
      replace RE := RE.below x11 RE.lt
      replace RR := RR.below x11 RR.lt
      replace RA := RA.below x11 RA.lt
      replace RB := RB.below x11 RB.lt
      cases vA1
      case false =>
       obtain ⟨s0, s1, s2, s3, f0, f1, f2, f3⟩ := cells8 RR
       obtain ⟨y0, y1, y2, y3, y4, y5, y6, y7, y8, y9, ya, yb⟩ := cells12 RE RA RB
       have F := leaf_fin (f := T) hw hB (Nat.le_succ _) RR he (by rw [← HTT.out]; unfold foldTwo; simp [HN.out, HB0.out, HB1.out, HA0.out, HA1.out])
       go_wp2_with fail
       refine bodyPost_ret (by simp [results, Tryd.results48, go_sem, s0, s1, s2, s3]) rfl F.out
      case true =>
       obtain ⟨s0, s1, s2, s3, f0, f1, f2, f3⟩ := cells8 RR
       obtain ⟨y0, y1, y2, y3, y4, y5, y6, y7, y8, y9, ya, yb⟩ := cells12 RE RA RB
       have F := leaf_fin (f := T) hw hB (Nat.le_succ _) RR he (by rw [← HTT.out]; unfold foldTwo; simp [HN.out, HB0.out, HB1.out, HA0.out, HA1.out])
       go_wp2_with fail
       refine bodyPost_ret (by simp [results, Tryd.results48, go_sem, s0, s1, s2, s3]) rfl F.out
    case true =>
     obtain ⟨y0, y1, y2, y3, y4, y5, y6, y7, y8, y9, ya, yb⟩ := cells12 RE RA RB
     go_wp2_with fail
     refine (spec_l6Is 1 an aname (.slice A3 akids.length p3) 0 _ akids ⟨_, _, rfl⟩).mono ?_
     rw [HA0.out]
     rintro e w10 ⟨rfl, x10⟩
     clear y0 y1 y2 y3 y4 y5 y6 y7 y8 y9 ya yb
     replace hw := hw.trans (x10.mono hw.size)
     replace RE := RE.below x10 RE.lt
     replace RR := RR.below x10 RR.lt
     replace RA := RA.below x10 RA.lt
     replace RB := RB.below x10 RB.lt
     cases vA0
     case false =>
      obtain ⟨y0, y1, y2, y3, y4, y5, y6, y7, y8, y9, ya, yb⟩ := cells12 RE RA RB
      go_wp2_with fail
      refine (spec_l6Is 1 an aname (.slice A3 akids.length p3) 1 _ akids ⟨_, _, rfl⟩).mono ?_
      rw [HA1.out]
      rintro e w11 ⟨rfl, x11⟩
      clear y0 y1 y2 y3 y4 y5 y6 y7 y8 y9 ya yb
      replace hw := hw.trans (x11.mono hw.size)
      replace RE := RE.below x11 RE.lt
      replace RR := RR.below x11 RR.lt
      replace RA := RA.below x11 RA.lt
      replace RB := RB.below x11 RB.lt
      cases vA1
      case false =>
       obtain ⟨s0, s1, s2, s3, f0, f1, f2, f3⟩ := cells8 RR
       obtain ⟨y0, y1, y2, y3, y4, y5, y6, y7, y8, y9, ya, yb⟩ := cells12 RE RA RB
       have F := leaf_fin (f := T) hw hB (Nat.le_succ _) RR he (by rw [← HTT.out]; unfold foldTwo; simp [HN.out, HB0.out, HB1.out, HA0.out, HA1.out])
       go_wp2_with fail
       refine bodyPost_ret (by simp [results, Tryd.results48, go_sem, s0, s1, s2, s3]) rfl F.out
      case true =>
       obtain ⟨s0, s1, s2, s3, f0, f1, f2, f3⟩ := cells8 RR
       obtain ⟨y0, y1, y2, y3, y4, y5, y6, y7, y8, y9, ya, yb⟩ := cells12 RE RA RB
       have F := leaf_fin (f := T) hw hB (Nat.le_succ _) RR he (by rw [← HTT.out]; unfold foldTwo; simp [HN.out, HB0.out, HB1.out, HA0.out, HA1.out])
       go_wp2_with fail
       refine bodyPost_ret (by simp [results, Tryd.results48, go_sem, s0, s1, s2, s3]) rfl F.out
     case true =>
      obtain ⟨y0, y1, y2, y3, y4, y5, y6, y7, y8, y9, ya, yb⟩ := cells12 RE RA RB
      go_wp2_with fail
      refine (spec_l6Is 1 an aname (.slice A3 akids.length p3) 1 _ akids ⟨_, _, rfl⟩).mono ?_
      rw [HA1.out]
      rintro e w11 ⟨rfl, x11⟩
      clear y0 y1 y2 y3 y4 y5 y6 y7 y8 y9 ya yb
      replace hw := hw.trans (x11.mono hw.size)
      replace RE := RE.below x11 RE.lt
      replace RR := RR.below x11 RR.lt
      replace RA := RA.below x11 RA.lt
      replace RB := RB.below x11 RB.lt
      cases vA1
      case false =>
       obtain ⟨s0, s1, s2, s3, f0, f1, f2, f3⟩ := cells8 RR
       obtain ⟨y0, y1, y2, y3, y4, y5, y6, y7, y8, y9, ya, yb⟩ := cells12 RE RA RB
       have F := leaf_fin (f := T) hw hB (Nat.le_succ _) RR he (by rw [← HTT.out]; unfold foldTwo; simp [HN.out, HB0.out, HB1.out, HA0.out, HA1.out])
       go_wp2_with fail
       refine bodyPost_ret (by simp [results, Tryd.results48, go_sem, s0, s1, s2, s3]) rfl F.out
      case true =>
       obtain ⟨s0, s1, s2, s3, f0, f1, f2, f3⟩ := cells8 RR
       obtain ⟨y0, y1, y2, y3, y4, y5, y6, y7, y8, y9, ya, yb⟩ := cells12 RE RA RB
       have F := leaf_fin (f := T) hw hB (Nat.le_succ _) RR he (by rw [← HTT.out]; unfold foldTwo; simp [HN.out, HB0.out, HB1.out, HA0.out, HA1.out])
       go_wp2_with fail
       refine bodyPost_ret (by simp [results, Tryd.results48, go_sem, s0, s1, s2, s3]) rfl F.out
   case true =>
    obtain ⟨s0, s1, s2, s3, f0, f1, f2, f3⟩ := cells8 RR
    obtain ⟨y0, y1, y2, y3, y4, y5, y6, y7, y8, y9, ya, yb⟩ := cells12 RE RA RB
    have F := leaf_fin (f := T) hw hB (Nat.le_succ _) RR ha (by rw [← HTT.out]; unfold foldTwo; simp [HN.out, HB0.out])
    go_wp2_with fail
    refine bodyPost_ret (by simp [results, Tryd.results48, go_sem, s0, s1, s2, s3]) rfl F.out
  subst qa qb
  obtain ⟨an0, an1⟩ := ra rfl
  obtain ⟨bn0, bn1⟩ := rb rfl
  clear ra rb
  have hv : (arV 4 an bn).2 = true := by simp [arV]
  have HN : Hid (numB 4 (Ex.mk 1 an aname akids) (Ex.mk 1 bn bname bkids) = true) := by show _ = _; simp [numB, Ex.op, Ex.n, hv]
  have HV := Lib.hid (show endC (arV 4 an bn).2 = 0 by rw [hv]; rfl)
  have hI : I64 (arV 4 an bn).1 := by
    have := arV_range (op := 4) an0 an1 bn0 bn1
    exact ⟨by omega, by omega⟩
  clear hv
  obtain ⟨y0, y1, y2, y3, y4, y5, y6, y7, y8, y9, ya, yb⟩ := cells12 RE RA RB
  go_wp2_with fail
  refine (spec_l5Eval_two (d + 1) 4 n name [(Ex.mk 1 an aname akids), (Ex.mk 1 bn bname bkids)] _ p _ lo B an bn aname bname akids bkids (Nat.le_trans hB hw.size) (h3s.below hw hB) rfl an0 an1 bn0 bn1 (by omega) (by omega)).mono ?_
  rw [HV.out]
  rintro e w8 ⟨rfl, x8⟩
  clear y0 y1 y2 y3 y4 y5 y6 y7 y8 y9 ya yb
  replace hw := hw.trans (x8.mono hw.size)
  replace RE := RE.below x8 RE.lt
  replace RR := RR.below x8 RR.lt
  replace RA := RA.below x8 RA.lt
  replace RB := RB.below x8 RB.lt
  obtain ⟨y0, y1, y2, y3, y4, y5, y6, y7, y8, y9, ya, yb⟩ := cells12 RE RA RB
  go_wp2_with fail
  refine (spec_num (d + 1) ((arV 4 an bn).1) _ hI).mono ?_
  rintro e w9 ⟨An, cn, rfl, hnr, x9⟩
  clear y0 y1 y2 y3 y4 y5 y6 y7 y8 y9 ya yb
  replace hw := hw.trans (x9.mono hw.size)
  replace RE := RE.below x9 RE.lt
  replace RR := RR.below x9 RR.lt
  replace RA := RA.below x9 RA.lt
  replace RB := RB.below x9 RB.lt
  obtain ⟨s0, s1, s2, s3, f0, f1, f2, f3⟩ := cells8 RR
  obtain ⟨y0, y1, y2, y3, y4, y5, y6, y7, y8, y9, ya, yb⟩ := cells12 RE RA RB
  have F := leaf_fin (f := T) hw hB (Nat.le_succ _) RR (hnr w lo B) (show T = exN1 ((arV 4 an bn).1) by rw [← HTT.out]; unfold foldTwo; rw [if_pos HN.out]; rfl)
  go_wp2_with fail
  refine bodyPost_ret (by simp [results, Tryd.results48, go_sem, s0, s1, s2, s3]) rfl F.out
end Go.Proofs.YthfinoapfbhgcaaDoor

namespace Go.Proofs.YthfinoapfbhgcaaDoor
open Go.RowKit Go.ChangeShapes Go.WideShapes Go.Deep
set_option linter.unusedVariables false
set_option linter.unusedSimpArgs false
set_option maxRecDepth 100000 in
set_option maxHeartbeats 16000000 in
theorem spec_l6Part_5 (d : Nat) (n : Int) (name : ByteArray) (aop an : Int) (aname : ByteArray) (akids : List Ex) (bop bn : Int) (bname : ByteArray) (bkids : List Ex) (A : Option Addr) (p : Nat) (w : World) (lo B : Nat) (hB : B ≤ w.heap.size) (hn : I64 n) (hnm : name.size ≤ maxLen)
    (h3 : ∀ m, SlT m (exT m (d + 1)) w lo B [.mk aop an aname akids, .mk bop bn bname bkids] (.slice A 2 p)) (ra : aop = 1 → 0 ≤ an ∧ an ≤ 255) (rb : bop = 1 → 0 ≤ bn ∧ bn ≤ 255) (fa : formB 6 (.mk aop an aname akids) = true) (fb : formB 6 (.mk bop bn bname bkids) = true) :
    Calls Tryd.prog 48 #[.agg #[.int .i64 5, .int .i64 n, .string name, .slice A 2 p]] w (FoldRP (d + 1) (foldTwo 5 (Ex.mk aop an aname akids) (Ex.mk bop bn bname bkids) (Ex.mk 5 n name [(Ex.mk aop an aname akids), (Ex.mk bop bn bname bkids)])) lo B w) := by
  obtain ⟨blk, op1, n1, nm1, k1, A3, p3, rfl, hlb, hbB, HL1, oa, na, sa, ha', c0, c1, c2, c3⟩ := exT_get d h3 (show 0 < 2 by omega)
  have e1 := HL1.out
  injection e1 with e1 e2 e3 e4
  subst e1 e2 e3 e4
  obtain ⟨blk', op2, n2, nm2, k2, A4, p4, hA, _, _, HL2, ob, nb, sb, hb', c4, c5, c6, c7⟩ := exT_get d h3 (show 1 < 2 by omega)
  injection hA with hA
  injection hA with hA
  subst hA
  have e1 := HL2.out
  injection e1 with e1 e2 e3 e4
  subst e1 e2 e3 e4
  have he : ∀ m, (exT m (d + 1 + 1)).rep w lo B (Ex.mk 5 n name [(Ex.mk aop an aname akids), (Ex.mk bop bn bname bkids)]) [.int .i64 5, .int .i64 n, .string name, .slice (some ⟨blk, 0, none⟩) 2 p] := fun m => exT_mk m (d + 1) 5 n name _ _ ⟨by omega, by omega⟩ hn hnm (h3 m)
  have ha : ∀ m, (exT m (d + 1 + 1)).rep w lo B (Ex.mk aop an aname akids) [.int .i64 aop, .int .i64 an, .string aname, .slice A3 akids.length p3] := fun m => exT_le m (Nat.le_succ _) (ha' m)
  have hb : ∀ m, (exT m (d + 1 + 1)).rep w lo B (Ex.mk bop bn bname bkids) [.int .i64 bop, .int .i64 bn, .string bname, .slice A4 bkids.length p4] := fun m => exT_le m (Nat.le_succ _) (hb' m)
  have ska : Sl false (exS false d) w lo B akids (.slice A3 akids.length p3) := (exT_kids d (ha' false)).exS
  have skb : Sl false (exS false d) w lo B bkids (.slice A4 bkids.length p4) := (exT_kids d (hb' false)).exS
  have h3s : Sl false (exS false (d + 1)) w lo B [(Ex.mk aop an aname akids), (Ex.mk bop bn bname bkids)] (.slice (some ⟨blk, 0, none⟩) 2 p) := (h3 false).exS
  clear ha' hb' h3 HL1 HL2
  obtain ⟨T, hTT⟩ : ∃ T, foldTwo 5 (Ex.mk aop an aname akids) (Ex.mk bop bn bname bkids) (Ex.mk 5 n name [(Ex.mk aop an aname akids), (Ex.mk bop bn bname bkids)]) = T := ⟨_, rfl⟩
  rw [hTT]
  have HTT := Lib.hid hTT
  clear hTT
  have hblk : blk < w.heap.size := by omega
  obtain ⟨vA0, hvA0⟩ : ∃ v, isN (Ex.mk aop an aname akids) 0 = v := ⟨_, rfl⟩
  obtain ⟨vA1, hvA1⟩ : ∃ v, isN (Ex.mk aop an aname akids) 1 = v := ⟨_, rfl⟩
  obtain ⟨vB0, hvB0⟩ : ∃ v, isN (Ex.mk bop bn bname bkids) 0 = v := ⟨_, rfl⟩
  obtain ⟨vB1, hvB1⟩ : ∃ v, isN (Ex.mk bop bn bname bkids) 1 = v := ⟨_, rfl⟩
  obtain ⟨vSA, hvSA⟩ : ∃ v, safeE 6 (Ex.mk aop an aname akids) = v := ⟨_, rfl⟩
  obtain ⟨vSB, hvSB⟩ : ∃ v, safeE 6 (Ex.mk bop bn bname bkids) = v := ⟨_, rfl⟩
  have HA0 := Lib.hid hvA0
  have HA1 := Lib.hid hvA1
  have HB0 := Lib.hid hvB0
  have HB1 := Lib.hid hvB1
  have HSA := Lib.hid hvSA
  have HSB := Lib.hid hvSB
  clear hvA0 hvA1 hvB0 hvB1 hvSA hvSB

  have hw : Below w.heap.size w ((w.alloc (.cells #[.int .i64 5, .int .i64 n, .string name, .slice (some ⟨blk, 0, none⟩) 2 p] 25)).alloc (.cells #[.int .i64 0, .int .i64 0, .string ⟨#[]⟩, .slice none 0 0] 25)) := ((Below.refl _ _).alloc (Nat.le_refl _) _).alloc (by simp) _
  have RE : Row _ w.heap.size 25 #[.int .i64 5, .int .i64 n, .string name, .slice (some ⟨blk, 0, none⟩) 2 p] := (Row.new w _ _).alloc (.cells #[.int .i64 0, .int .i64 0, .string ⟨#[]⟩, .slice none 0 0] 25)
  have RR : Row ((w.alloc (.cells #[.int .i64 5, .int .i64 n, .string name, .slice (some ⟨blk, 0, none⟩) 2 p] 25)).alloc (.cells #[.int .i64 0, .int .i64 0, .string ⟨#[]⟩, .slice none 0 0] 25)) (w.heap.size + 1) 25 #[.int .i64 0, .int .i64 0, .string ⟨#[]⟩, .slice none 0 0] := by simpa using Row.new (w.alloc (.cells #[.int .i64 5, .int .i64 n, .string name, .slice (some ⟨blk, 0, none⟩) 2 p] 25)) 25 #[.int .i64 0, .int .i64 0, .string ⟨#[]⟩, .slice none 0 0]
  go_enter Tryd.func48, Tryd.ntmps48
  go_wp2_with fail
  refine (spec_l1In 5 3 10 _).mono ?_
  rw [show inB 5 3 10 = true from by decide]
  rintro e w5 ⟨rfl, hw5⟩
  rw [hw5] at hw RE RR
  clear hw5
  obtain ⟨k0, k1, k2, k3, k4, k5, k6, k7⟩ := kids8 hw hblk c0 c1 c2 c3 c4 c5 c6 c7
  obtain ⟨z0, z1, z2, z3⟩ := cells4 RE
  have y_6 := (Below.refl _ w5).alloc (Nat.le_refl _) (.cells #[.int .i64 aop, .int .i64 an, .string aname, .slice A3 akids.length p3] 25)
  replace hw := hw.trans (y_6.mono hw.size)
  replace RE := RE.below y_6 RE.lt
  replace RR := RR.below y_6 RR.lt
  have RA : Row _ _ _ #[.int .i64 aop, .int .i64 an, .string aname, .slice A3 akids.length p3] := Row.new w5 25 _
  obtain ⟨l0, l1, l2, l3, l4, l5, l6, l7⟩ := kids8 hw hblk c0 c1 c2 c3 c4 c5 c6 c7
  obtain ⟨t0, t1, t2, t3⟩ := cells4 RE
  have y_7 := (Below.refl _ (w5.alloc (.cells #[.int .i64 aop, .int .i64 an, .string aname, .slice A3 akids.length p3] 25))).alloc (Nat.le_refl _) (.cells #[.int .i64 bop, .int .i64 bn, .string bname, .slice A4 bkids.length p4] 25)
  replace hw := hw.trans (y_7.mono hw.size)
  replace RE := RE.below y_7 RE.lt
  replace RR := RR.below y_7 RR.lt
  replace RA := RA.below y_7 RA.lt
  have RB : Row ((w5.alloc (.cells #[.int .i64 aop, .int .i64 an, .string aname, .slice A3 akids.length p3] 25)).alloc (.cells #[.int .i64 bop, .int .i64 bn, .string bname, .slice A4 bkids.length p4] 25)) (w5.heap.size + 1) 25 #[.int .i64 bop, .int .i64 bn, .string bname, .slice A4 bkids.length p4] := by simpa using Row.new (w5.alloc (.cells #[.int .i64 aop, .int .i64 an, .string aname, .slice A3 akids.length p3] 25)) 25 #[.int .i64 bop, .int .i64 bn, .string bname, .slice A4 bkids.length p4]
  clear c0 c1 c2 c3 c4 c5 c6 c7
  by_cases qa : aop = 1
  case neg =>
   have qa' : (aop == 1) = false := by simpa using qa
   have HN : Hid (numB 5 (Ex.mk aop an aname akids) (Ex.mk bop bn bname bkids) = false) := by show _ = _; simp [numB, Ex.op, qa]
   clear qa
   obtain ⟨y0, y1, y2, y3, y4, y5, y6, y7, y8, y9, ya, yb⟩ := cells12 RE RA RB
   go_wp2_with fail
   refine (spec_l6Is bop bn bname (.slice A4 bkids.length p4) 0 _ bkids ⟨_, _, rfl⟩).mono ?_
   rw [HB0.out]
   rintro e w8 ⟨rfl, x8⟩
   clear y0 y1 y2 y3 y4 y5 y6 y7 y8 y9 ya yb
   replace hw := hw.trans (x8.mono hw.size)
   replace RE := RE.below x8 RE.lt
   replace RR := RR.below x8 RR.lt
   replace RA := RA.below x8 RA.lt
   replace RB := RB.below x8 RB.lt
   cases vB0
   case false =>
    obtain ⟨y0, y1, y2, y3, y4, y5, y6, y7, y8, y9, ya, yb⟩ := cells12 RE RA RB
    go_wp2_with fail
    refine (spec_l6Is bop bn bname (.slice A4 bkids.length p4) 1 _ bkids ⟨_, _, rfl⟩).mono ?_
    rw [HB1.out]
    rintro e w9 ⟨rfl, x9⟩
    clear y0 y1 y2 y3 y4 y5 y6 y7 y8 y9 ya yb
    replace hw := hw.trans (x9.mono hw.size)
    replace RE := RE.below x9 RE.lt
    replace RR := RR.below x9 RR.lt
    replace RA := RA.below x9 RA.lt
    replace RB := RB.below x9 RB.lt
    cases vB1
    case false =>
     obtain ⟨y0, y1, y2, y3, y4, y5, y6, y7, y8, y9, ya, yb⟩ := cells12 RE RA RB
     go_wp2_with fail
     refine (spec_l6Is aop an aname (.slice A3 akids.length p3) 0 _ akids ⟨_, _, rfl⟩).mono ?_
     rw [HA0.out]
     rintro e w10 ⟨rfl, x10⟩
     clear y0 y1 y2 y3 y4 y5 y6 y7 y8 y9 ya yb
     replace hw := hw.trans (x10.mono hw.size)
     replace RE := RE.below x10 RE.lt
     replace RR := RR.below x10 RR.lt
     replace RA := RA.below x10 RA.lt
     replace RB := RB.below x10 RB.lt
     cases vA0
     case false =>
      obtain ⟨y0, y1, y2, y3, y4, y5, y6, y7, y8, y9, ya, yb⟩ := cells12 RE RA RB
      go_wp2_with fail
      refine (spec_l6Is aop an aname (.slice A3 akids.length p3) 1 _ akids ⟨_, _, rfl⟩).mono ?_
      rw [HA1.out]
      rintro e w11 ⟨rfl, x11⟩
      clear y0 y1 y2 y3 y4 y5 y6 y7 y8 y9 ya yb
      replace hw := hw.trans (x11.mono hw.size)
      replace RE := RE.below x11 RE.lt
      replace RR := RR.below x11 RR.lt
      replace RA := RA.below x11 RA.lt
      replace RB := RB.below x11 RB.lt
      cases vA1
      case false =>
       obtain ⟨y0, y1, y2, y3, y4, y5, y6, y7, y8, y9, ya, yb⟩ := cells12 RE RA RB
       go_wp2_with fail
       refine (spec_l6Is bop bn bname (.slice A4 bkids.length p4) 0 _ bkids ⟨_, _, rfl⟩).mono ?_
       rw [HB0.out]
       rintro e w12 ⟨rfl, x12⟩
       clear y0 y1 y2 y3 y4 y5 y6 y7 y8 y9 ya yb
       replace hw := hw.trans (x12.mono hw.size)
       replace RE := RE.below x12 RE.lt
       replace RR := RR.below x12 RR.lt
       replace RA := RA.below x12 RA.lt
       replace RB := RB.below x12 RB.lt
       obtain ⟨y0, y1, y2, y3, y4, y5, y6, y7, y8, y9, ya, yb⟩ := cells12 RE RA RB
       go_wp2_with fail
       refine (spec_l6Is aop an aname (.slice A3 akids.length p3) 0 _ akids ⟨_, _, rfl⟩).mono ?_
       rw [HA0.out]
       rintro e w13 ⟨rfl, x13⟩
       clear y0 y1 y2 y3 y4 y5 y6 y7 y8 y9 ya yb
       replace hw := hw.trans (x13.mono hw.size)
       replace RE := RE.below x13 RE.lt
       replace RR := RR.below x13 RR.lt
       replace RA := RA.below x13 RA.lt
       replace RB := RB.below x13 RB.lt
       obtain ⟨s0, s1, s2, s3, f0, f1, f2, f3⟩ := cells8 RR
       obtain ⟨y0, y1, y2, y3, y4, y5, y6, y7, y8, y9, ya, yb⟩ := cells12 RE RA RB
       have F := leaf_fin (f := T) hw hB (Nat.le_succ _) RR he (by rw [← HTT.out]; unfold foldTwo; simp [HN.out, HB0.out, HB1.out, HA0.out, HA1.out])
       go_wp2_with fail
       refine bodyPost_ret (by simp [results, Tryd.results48, go_sem, s0, s1, s2, s3]) rfl F.out
      case true =>
       obtain ⟨s0, s1, s2, s3, f0, f1, f2, f3⟩ := cells8 RR
       obtain ⟨y0, y1, y2, y3, y4, y5, y6, y7, y8, y9, ya, yb⟩ := cells12 RE RA RB
       have F := leaf_fin (f := T) hw hB (Nat.le_succ _) RR hb (by rw [← HTT.out]; unfold foldTwo; simp [HN.out, HB0.out, HB1.out, HA0.out, HA1.out])
       go_wp2_with fail
       refine bodyPost_ret (by simp [results, Tryd.results48, go_sem, s0, s1, s2, s3]) rfl F.out
     case true =>
      obtain ⟨y0, y1, y2, y3, y4, y5, y6, y7, y8, y9, ya, yb⟩ := cells12 RE RA RB
      go_wp2_with fail
      refine (spec_l6Is aop an aname (.slice A3 akids.length p3) 1 _ akids ⟨_, _, rfl⟩).mono ?_
      rw [HA1.out]
      rintro e w11 ⟨rfl, x11⟩
      clear y0 y1 y2 y3 y4 y5 y6 y7 y8 y9 ya yb
      replace hw := hw.trans (x11.mono hw.size)
      replace RE := RE.below x11 RE.lt
      replace RR := RR.below x11 RR.lt
      replace RA := RA.below x11 RA.lt
      replace RB := RB.below x11 RB.lt
      cases vA1
      case false =>
       obtain ⟨y0, y1, y2, y3, y4, y5, y6, y7, y8, y9, ya, yb⟩ := cells12 RE RA RB
       go_wp2_with fail
       refine (spec_l6Is bop bn bname (.slice A4 bkids.length p4) 0 _ bkids ⟨_, _, rfl⟩).mono ?_
       rw [HB0.out]
       rintro e w12 ⟨rfl, x12⟩
       clear y0 y1 y2 y3 y4 y5 y6 y7 y8 y9 ya yb
       replace hw := hw.trans (x12.mono hw.size)
       replace RE := RE.below x12 RE.lt
       replace RR := RR.below x12 RR.lt
       replace RA := RA.below x12 RA.lt
       replace RB := RB.below x12 RB.lt
       obtain ⟨y0, y1, y2, y3, y4, y5, y6, y7, y8, y9, ya, yb⟩ := cells12 RE RA RB
       go_wp2_with fail
       refine (spec_l6Is aop an aname (.slice A3 akids.length p3) 0 _ akids ⟨_, _, rfl⟩).mono ?_
       rw [HA0.out]
       rintro e w13 ⟨rfl, x13⟩
       clear y0 y1 y2 y3 y4 y5 y6 y7 y8 y9 ya yb
       replace hw := hw.trans (x13.mono hw.size)
       replace RE := RE.below x13 RE.lt
       replace RR := RR.below x13 RR.lt
       replace RA := RA.below x13 RA.lt
       replace RB := RB.below x13 RB.lt
       obtain ⟨y0, y1, y2, y3, y4, y5, y6, y7, y8, y9, ya, yb⟩ := cells12 RE RA RB
       go_wp2_with fail
       refine (spec_l6Safe 6 d bop bn bname bkids (.slice A4 bkids.length p4) _ lo B (Nat.le_trans hB hw.size) ob nb sb (skb.below hw hB) fb).mono ?_
       rw [HSB.out]
       rintro e w14 ⟨rfl, x14⟩
       clear y0 y1 y2 y3 y4 y5 y6 y7 y8 y9 ya yb
       replace hw := hw.trans (x14.mono hw.size)
       replace RE := RE.below x14 RE.lt
       replace RR := RR.below x14 RR.lt
       replace RA := RA.below x14 RA.lt
       replace RB := RB.below x14 RB.lt
       cases vSB
       case false =>
        obtain ⟨s0, s1, s2, s3, f0, f1, f2, f3⟩ := cells8 RR
        obtain ⟨y0, y1, y2, y3, y4, y5, y6, y7, y8, y9, ya, yb⟩ := cells12 RE RA RB
        have F := leaf_fin (f := T) hw hB (Nat.le_succ _) RR he (by rw [← HTT.out]; unfold foldTwo; simp [HN.out, HB0.out, HB1.out, HA0.out, HA1.out, HSB.out])
        go_wp2_with fail
        refine bodyPost_ret (by simp [results, Tryd.results48, go_sem, s0, s1, s2, s3]) rfl F.out
       case true =>
        obtain ⟨y0, y1, y2, y3, y4, y5, y6, y7, y8, y9, ya, yb⟩ := cells12 RE RA RB
        go_wp2_with fail
        refine (spec_num (d + 1) (0) _ ⟨by omega, by omega⟩).mono ?_
        rintro e w15 ⟨An, cn, rfl, hnr, x15⟩
        clear y0 y1 y2 y3 y4 y5 y6 y7 y8 y9 ya yb
        replace hw := hw.trans (x15.mono hw.size)
        replace RE := RE.below x15 RE.lt
        replace RR := RR.below x15 RR.lt
        replace RA := RA.below x15 RA.lt
        replace RB := RB.below x15 RB.lt
        obtain ⟨s0, s1, s2, s3, f0, f1, f2, f3⟩ := cells8 RR
        obtain ⟨y0, y1, y2, y3, y4, y5, y6, y7, y8, y9, ya, yb⟩ := cells12 RE RA RB
        have F := leaf_fin (f := T) hw hB (Nat.le_succ _) RR (hnr w lo B) (show T = exN1 (0) by rw [← HTT.out]; unfold foldTwo; simp [HN.out, HB0.out, HB1.out, HA0.out, HA1.out, HSB.out])
        go_wp2_with fail
        refine bodyPost_ret (by simp [results, Tryd.results48, go_sem, s0, s1, s2, s3]) rfl F.out
      case true =>
       obtain ⟨s0, s1, s2, s3, f0, f1, f2, f3⟩ := cells8 RR
       obtain ⟨y0, y1, y2, y3, y4, y5, y6, y7, y8, y9, ya, yb⟩ := cells12 RE RA RB
       have F := leaf_fin (f := T) hw hB (Nat.le_succ _) RR hb (by rw [← HTT.out]; unfold foldTwo; simp [HN.out, HB0.out, HB1.out, HA0.out, HA1.out])
       go_wp2_with fail
       refine bodyPost_ret (by simp [results, Tryd.results48, go_sem, s0, s1, s2, s3]) rfl F.out
    case true =>
     obtain ⟨s0, s1, s2, s3, f0, f1, f2, f3⟩ := cells8 RR
     obtain ⟨y0, y1, y2, y3, y4, y5, y6, y7, y8, y9, ya, yb⟩ := cells12 RE RA RB
     have F := leaf_fin (f := T) hw hB (Nat.le_succ _) RR ha (by rw [← HTT.out]; unfold foldTwo; simp [HN.out, HB0.out, HB1.out])
     go_wp2_with fail
     refine bodyPost_ret (by simp [results, Tryd.results48, go_sem, s0, s1, s2, s3]) rfl F.out
   case true =>
    obtain ⟨y0, y1, y2, y3, y4, y5, y6, y7, y8, y9, ya, yb⟩ := cells12 RE RA RB
    go_wp2_with fail
    refine (spec_l6Is bop bn bname (.slice A4 bkids.length p4) 1 _ bkids ⟨_, _, rfl⟩).mono ?_
    rw [HB1.out]
    rintro e w9 ⟨rfl, x9⟩
    clear y0 y1 y2 y3 y4 y5 y6 y7 y8 y9 ya yb
    replace hw := hw.trans (x9.mono hw.size)
    replace RE := RE.below x9 RE.lt
    replace RR := RR.below x9 RR.lt
    replace RA := RA.below x9 RA.lt
    replace RB := RB.below x9 RB.lt
    cases vB1
    case false =>
     obtain ⟨y0, y1, y2, y3, y4, y5, y6, y7, y8, y9, ya, yb⟩ := cells12 RE RA RB
     go_wp2_with fail
     refine (spec_l6Is aop an aname (.slice A3 akids.length p3) 0 _ akids ⟨_, _, rfl⟩).mono ?_
     rw [HA0.out]
     rintro e w10 ⟨rfl, x10⟩
     clear y0 y1 y2 y3 y4 y5 y6 y7 y8 y9 ya yb
     replace hw := hw.trans (x10.mono hw.size)
     replace RE := RE.below x10 RE.lt
     replace RR := RR.below x10 RR.lt
     replace RA := RA.below x10 RA.lt
     replace RB := RB.below x10 RB.lt
     cases vA0
     case false =>
      obtain ⟨y0, y1, y2, y3, y4, y5, y6, y7, y8, y9, ya, yb⟩ := cells12 RE RA RB
      go_wp2_with fail
      refine (spec_l6Is aop an aname (.slice A3 akids.length p3) 1 _ akids ⟨_, _, rfl⟩).mono ?_
      rw [HA1.out]
      rintro e w11 ⟨rfl, x11⟩
      clear y0 y1 y2 y3 y4 y5 y6 y7 y8 y9 ya yb
      replace hw := hw.trans (x11.mono hw.size)
      replace RE := RE.below x11 RE.lt
      replace RR := RR.below x11 RR.lt
      replace RA := RA.below x11 RA.lt
      replace RB := RB.below x11 RB.lt
      cases vA1
      case false =>
       obtain ⟨y0, y1, y2, y3, y4, y5, y6, y7, y8, y9, ya, yb⟩ := cells12 RE RA RB
       go_wp2_with fail
       refine (spec_l6Is bop bn bname (.slice A4 bkids.length p4) 0 _ bkids ⟨_, _, rfl⟩).mono ?_
       rw [HB0.out]
       rintro e w12 ⟨rfl, x12⟩
       clear y0 y1 y2 y3 y4 y5 y6 y7 y8 y9 ya yb
       replace hw := hw.trans (x12.mono hw.size)
       replace RE := RE.below x12 RE.lt
       replace RR := RR.below x12 RR.lt
       replace RA := RA.below x12 RA.lt
       replace RB := RB.below x12 RB.lt
       obtain ⟨y0, y1, y2, y3, y4, y5, y6, y7, y8, y9, ya, yb⟩ := cells12 RE RA RB
       go_wp2_with fail
       refine (spec_l6Safe 6 d aop an aname akids (.slice A3 akids.length p3) _ lo B (Nat.le_trans hB hw.size) oa na sa (ska.below hw hB) fa).mono ?_
       rw [HSA.out]
       rintro e w13 ⟨rfl, x13⟩
       clear y0 y1 y2 y3 y4 y5 y6 y7 y8 y9 ya yb
       replace hw := hw.trans (x13.mono hw.size)
       replace RE := RE.below x13 RE.lt
       replace RR := RR.below x13 RR.lt
       replace RA := RA.below x13 RA.lt
       replace RB := RB.below x13 RB.lt
       cases vSA
       case false =>
        obtain ⟨y0, y1, y2, y3, y4, y5, y6, y7, y8, y9, ya, yb⟩ := cells12 RE RA RB
        go_wp2_with fail
        refine (spec_l6Is aop an aname (.slice A3 akids.length p3) 0 _ akids ⟨_, _, rfl⟩).mono ?_
        rw [HA0.out]
        rintro e w14 ⟨rfl, x14⟩
        clear y0 y1 y2 y3 y4 y5 y6 y7 y8 y9 ya yb
        replace hw := hw.trans (x14.mono hw.size)
        replace RE := RE.below x14 RE.lt
        replace RR := RR.below x14 RR.lt
        replace RA := RA.below x14 RA.lt
        replace RB := RB.below x14 RB.lt
        obtain ⟨s0, s1, s2, s3, f0, f1, f2, f3⟩ := cells8 RR
        obtain ⟨y0, y1, y2, y3, y4, y5, y6, y7, y8, y9, ya, yb⟩ := cells12 RE RA RB
        have F := leaf_fin (f := T) hw hB (Nat.le_succ _) RR he (by rw [← HTT.out]; unfold foldTwo; simp [HN.out, HB0.out, HB1.out, HA0.out, HA1.out, HSA.out])
        go_wp2_with fail
        refine bodyPost_ret (by simp [results, Tryd.results48, go_sem, s0, s1, s2, s3]) rfl F.out
       case true =>
        obtain ⟨y0, y1, y2, y3, y4, y5, y6, y7, y8, y9, ya, yb⟩ := cells12 RE RA RB
        go_wp2_with fail
        refine (spec_num (d + 1) (0) _ ⟨by omega, by omega⟩).mono ?_
        rintro e w14 ⟨An, cn, rfl, hnr, x14⟩
        clear y0 y1 y2 y3 y4 y5 y6 y7 y8 y9 ya yb
        replace hw := hw.trans (x14.mono hw.size)
        replace RE := RE.below x14 RE.lt
        replace RR := RR.below x14 RR.lt
        replace RA := RA.below x14 RA.lt
        replace RB := RB.below x14 RB.lt
        obtain ⟨s0, s1, s2, s3, f0, f1, f2, f3⟩ := cells8 RR
        obtain ⟨y0, y1, y2, y3, y4, y5, y6, y7, y8, y9, ya, yb⟩ := cells12 RE RA RB
        have F := leaf_fin (f := T) hw hB (Nat.le_succ _) RR (hnr w lo B) (show T = exN1 (0) by rw [← HTT.out]; unfold foldTwo; simp [HN.out, HB0.out, HB1.out, HA0.out, HA1.out, HSA.out])
        go_wp2_with fail
        refine bodyPost_ret (by simp [results, Tryd.results48, go_sem, s0, s1, s2, s3]) rfl F.out
      case true =>
       obtain ⟨s0, s1, s2, s3, f0, f1, f2, f3⟩ := cells8 RR
       obtain ⟨y0, y1, y2, y3, y4, y5, y6, y7, y8, y9, ya, yb⟩ := cells12 RE RA RB
       have F := leaf_fin (f := T) hw hB (Nat.le_succ _) RR hb (by rw [← HTT.out]; unfold foldTwo; simp [HN.out, HB0.out, HB1.out, HA0.out, HA1.out])
       go_wp2_with fail
       refine bodyPost_ret (by simp [results, Tryd.results48, go_sem, s0, s1, s2, s3]) rfl F.out
     case true =>
      obtain ⟨y0, y1, y2, y3, y4, y5, y6, y7, y8, y9, ya, yb⟩ := cells12 RE RA RB
      go_wp2_with fail
      refine (spec_l6Is aop an aname (.slice A3 akids.length p3) 1 _ akids ⟨_, _, rfl⟩).mono ?_
      rw [HA1.out]
      rintro e w11 ⟨rfl, x11⟩
      clear y0 y1 y2 y3 y4 y5 y6 y7 y8 y9 ya yb
      replace hw := hw.trans (x11.mono hw.size)
      replace RE := RE.below x11 RE.lt
      replace RR := RR.below x11 RR.lt
      replace RA := RA.below x11 RA.lt
      replace RB := RB.below x11 RB.lt
      cases vA1
      case false =>
       obtain ⟨y0, y1, y2, y3, y4, y5, y6, y7, y8, y9, ya, yb⟩ := cells12 RE RA RB
       go_wp2_with fail
       refine (spec_l6Is bop bn bname (.slice A4 bkids.length p4) 0 _ bkids ⟨_, _, rfl⟩).mono ?_
       rw [HB0.out]
       rintro e w12 ⟨rfl, x12⟩
       clear y0 y1 y2 y3 y4 y5 y6 y7 y8 y9 ya yb
       replace hw := hw.trans (x12.mono hw.size)
       replace RE := RE.below x12 RE.lt
       replace RR := RR.below x12 RR.lt
       replace RA := RA.below x12 RA.lt
       replace RB := RB.below x12 RB.lt
       obtain ⟨y0, y1, y2, y3, y4, y5, y6, y7, y8, y9, ya, yb⟩ := cells12 RE RA RB
       go_wp2_with fail
       refine (spec_l6Safe 6 d aop an aname akids (.slice A3 akids.length p3) _ lo B (Nat.le_trans hB hw.size) oa na sa (ska.below hw hB) fa).mono ?_
       rw [HSA.out]
       rintro e w13 ⟨rfl, x13⟩
       clear y0 y1 y2 y3 y4 y5 y6 y7 y8 y9 ya yb
       replace hw := hw.trans (x13.mono hw.size)
       replace RE := RE.below x13 RE.lt
       replace RR := RR.below x13 RR.lt
       replace RA := RA.below x13 RA.lt
       replace RB := RB.below x13 RB.lt
       cases vSA
       case false =>
        obtain ⟨y0, y1, y2, y3, y4, y5, y6, y7, y8, y9, ya, yb⟩ := cells12 RE RA RB
        go_wp2_with fail
        refine (spec_l6Is aop an aname (.slice A3 akids.length p3) 0 _ akids ⟨_, _, rfl⟩).mono ?_
        rw [HA0.out]
        rintro e w14 ⟨rfl, x14⟩
        clear y0 y1 y2 y3 y4 y5 y6 y7 y8 y9 ya yb
        replace hw := hw.trans (x14.mono hw.size)
        replace RE := RE.below x14 RE.lt
        replace RR := RR.below x14 RR.lt
        replace RA := RA.below x14 RA.lt
        replace RB := RB.below x14 RB.lt
        obtain ⟨y0, y1, y2, y3, y4, y5, y6, y7, y8, y9, ya, yb⟩ := cells12 RE RA RB
        go_wp2_with fail
        refine (spec_l6Safe 6 d bop bn bname bkids (.slice A4 bkids.length p4) _ lo B (Nat.le_trans hB hw.size) ob nb sb (skb.below hw hB) fb).mono ?_
        rw [HSB.out]
        rintro e w15 ⟨rfl, x15⟩
        clear y0 y1 y2 y3 y4 y5 y6 y7 y8 y9 ya yb
        replace hw := hw.trans (x15.mono hw.size)
        replace RE := RE.below x15 RE.lt
        replace RR := RR.below x15 RR.lt
        replace RA := RA.below x15 RA.lt
        replace RB := RB.below x15 RB.lt
        cases vSB
        case false =>
         obtain ⟨s0, s1, s2, s3, f0, f1, f2, f3⟩ := cells8 RR
         obtain ⟨y0, y1, y2, y3, y4, y5, y6, y7, y8, y9, ya, yb⟩ := cells12 RE RA RB
         have F := leaf_fin (f := T) hw hB (Nat.le_succ _) RR he (by rw [← HTT.out]; unfold foldTwo; simp [HN.out, HB0.out, HB1.out, HA0.out, HA1.out, HSA.out, HSB.out])
         go_wp2_with fail
         refine bodyPost_ret (by simp [results, Tryd.results48, go_sem, s0, s1, s2, s3]) rfl F.out
        case true =>
         obtain ⟨y0, y1, y2, y3, y4, y5, y6, y7, y8, y9, ya, yb⟩ := cells12 RE RA RB
         go_wp2_with fail
         refine (spec_num (d + 1) (0) _ ⟨by omega, by omega⟩).mono ?_
         rintro e w16 ⟨An, cn, rfl, hnr, x16⟩
         clear y0 y1 y2 y3 y4 y5 y6 y7 y8 y9 ya yb
         replace hw := hw.trans (x16.mono hw.size)
         replace RE := RE.below x16 RE.lt
         replace RR := RR.below x16 RR.lt
         replace RA := RA.below x16 RA.lt
         replace RB := RB.below x16 RB.lt
         obtain ⟨s0, s1, s2, s3, f0, f1, f2, f3⟩ := cells8 RR
         obtain ⟨y0, y1, y2, y3, y4, y5, y6, y7, y8, y9, ya, yb⟩ := cells12 RE RA RB
         have F := leaf_fin (f := T) hw hB (Nat.le_succ _) RR (hnr w lo B) (show T = exN1 (0) by rw [← HTT.out]; unfold foldTwo; simp [HN.out, HB0.out, HB1.out, HA0.out, HA1.out, HSA.out, HSB.out])
         go_wp2_with fail
         refine bodyPost_ret (by simp [results, Tryd.results48, go_sem, s0, s1, s2, s3]) rfl F.out
       case true =>
        obtain ⟨y0, y1, y2, y3, y4, y5, y6, y7, y8, y9, ya, yb⟩ := cells12 RE RA RB
        go_wp2_with fail
        refine (spec_num (d + 1) (0) _ ⟨by omega, by omega⟩).mono ?_
        rintro e w14 ⟨An, cn, rfl, hnr, x14⟩
        clear y0 y1 y2 y3 y4 y5 y6 y7 y8 y9 ya yb
        replace hw := hw.trans (x14.mono hw.size)
        replace RE := RE.below x14 RE.lt
        replace RR := RR.below x14 RR.lt
        replace RA := RA.below x14 RA.lt
        replace RB := RB.below x14 RB.lt
        obtain ⟨s0, s1, s2, s3, f0, f1, f2, f3⟩ := cells8 RR
        obtain ⟨y0, y1, y2, y3, y4, y5, y6, y7, y8, y9, ya, yb⟩ := cells12 RE RA RB
        have F := leaf_fin (f := T) hw hB (Nat.le_succ _) RR (hnr w lo B) (show T = exN1 (0) by rw [← HTT.out]; unfold foldTwo; simp [HN.out, HB0.out, HB1.out, HA0.out, HA1.out, HSA.out])
        go_wp2_with fail
        refine bodyPost_ret (by simp [results, Tryd.results48, go_sem, s0, s1, s2, s3]) rfl F.out
      case true =>
       obtain ⟨s0, s1, s2, s3, f0, f1, f2, f3⟩ := cells8 RR
       obtain ⟨y0, y1, y2, y3, y4, y5, y6, y7, y8, y9, ya, yb⟩ := cells12 RE RA RB
       have F := leaf_fin (f := T) hw hB (Nat.le_succ _) RR hb (by rw [← HTT.out]; unfold foldTwo; simp [HN.out, HB0.out, HB1.out, HA0.out, HA1.out])
       go_wp2_with fail
       refine bodyPost_ret (by simp [results, Tryd.results48, go_sem, s0, s1, s2, s3]) rfl F.out
    case true =>
     obtain ⟨s0, s1, s2, s3, f0, f1, f2, f3⟩ := cells8 RR
     obtain ⟨y0, y1, y2, y3, y4, y5, y6, y7, y8, y9, ya, yb⟩ := cells12 RE RA RB
     have F := leaf_fin (f := T) hw hB (Nat.le_succ _) RR ha (by rw [← HTT.out]; unfold foldTwo; simp [HN.out, HB0.out, HB1.out])
     go_wp2_with fail
     refine bodyPost_ret (by simp [results, Tryd.results48, go_sem, s0, s1, s2, s3]) rfl F.out
  by_cases qb : bop = 1
  case neg =>
   have qb' : (bop == 1) = false := by simpa using qb
   have HN : Hid (numB 5 (Ex.mk aop an aname akids) (Ex.mk bop bn bname bkids) = false) := by show _ = _; simp [numB, Ex.op, qb]
   subst qa
   clear qb
   obtain ⟨y0, y1, y2, y3, y4, y5, y6, y7, y8, y9, ya, yb⟩ := cells12 RE RA RB
   go_wp2_with fail
   refine (spec_l6Is bop bn bname (.slice A4 bkids.length p4) 0 _ bkids ⟨_, _, rfl⟩).mono ?_
   rw [HB0.out]
   rintro e w8 ⟨rfl, x8⟩
   clear y0 y1 y2 y3 y4 y5 y6 y7 y8 y9 ya yb
   replace hw := hw.trans (x8.mono hw.size)
   replace RE := RE.below x8 RE.lt
   replace RR := RR.below x8 RR.lt
   replace RA := RA.below x8 RA.lt
   replace RB := RB.below x8 RB.lt
   cases vB0
   case false =>
    obtain ⟨y0, y1, y2, y3, y4, y5, y6, y7, y8, y9, ya, yb⟩ := cells12 RE RA RB
    go_wp2_with fail
    refine (spec_l6Is bop bn bname (.slice A4 bkids.length p4) 1 _ bkids ⟨_, _, rfl⟩).mono ?_
    rw [HB1.out]
    rintro e w9 ⟨rfl, x9⟩
    clear y0 y1 y2 y3 y4 y5 y6 y7 y8 y9 ya yb
    replace hw := hw.trans (x9.mono hw.size)
    replace RE := RE.below x9 RE.lt
    replace RR := RR.below x9 RR.lt
    replace RA := RA.below x9 RA.lt
    replace RB := RB.below x9 RB.lt
    cases vB1
    case false =>
     obtain ⟨y0, y1, y2, y3, y4, y5, y6, y7, y8, y9, ya, yb⟩ := cells12 RE RA RB
     go_wp2_with fail
     refine (spec_l6Is 1 an aname (.slice A3 akids.length p3) 0 _ akids ⟨_, _, rfl⟩).mono ?_
     rw [HA0.out]
     rintro e w10 ⟨rfl, x10⟩
     clear y0 y1 y2 y3 y4 y5 y6 y7 y8 y9 ya yb
     replace hw := hw.trans (x10.mono hw.size)
     replace RE := RE.below x10 RE.lt
     replace RR := RR.below x10 RR.lt
     replace RA := RA.below x10 RA.lt
     replace RB := RB.below x10 RB.lt
     cases vA0
     case false =>
      obtain ⟨y0, y1, y2, y3, y4, y5, y6, y7, y8, y9, ya, yb⟩ := cells12 RE RA RB
      go_wp2_with fail
      refine (spec_l6Is 1 an aname (.slice A3 akids.length p3) 1 _ akids ⟨_, _, rfl⟩).mono ?_
      rw [HA1.out]
      rintro e w11 ⟨rfl, x11⟩
      clear y0 y1 y2 y3 y4 y5 y6 y7 y8 y9 ya yb
      replace hw := hw.trans (x11.mono hw.size)
      replace RE := RE.below x11 RE.lt
      replace RR := RR.below x11 RR.lt
      replace RA := RA.below x11 RA.lt
      replace RB := RB.below x11 RB.lt
      cases vA1
      case false =>
       obtain ⟨y0, y1, y2, y3, y4, y5, y6, y7, y8, y9, ya, yb⟩ := cells12 RE RA RB
       go_wp2_with fail
       refine (spec_l6Is bop bn bname (.slice A4 bkids.length p4) 0 _ bkids ⟨_, _, rfl⟩).mono ?_
       rw [HB0.out]
       rintro e w12 ⟨rfl, x12⟩
       clear y0 y1 y2 y3 y4 y5 y6 y7 y8 y9 ya yb
       replace hw := hw.trans (x12.mono hw.size)
       replace RE := RE.below x12 RE.lt
       replace RR := RR.below x12 RR.lt
       replace RA := RA.below x12 RA.lt
       replace RB := RB.below x12 RB.lt
       obtain ⟨y0, y1, y2, y3, y4, y5, y6, y7, y8, y9, ya, yb⟩ := cells12 RE RA RB
       go_wp2_with fail
       refine (spec_l6Is 1 an aname (.slice A3 akids.length p3) 0 _ akids ⟨_, _, rfl⟩).mono ?_
       rw [HA0.out]
       rintro e w13 ⟨rfl, x13⟩
       clear y0 y1 y2 y3 y4 y5 y6 y7 y8 y9 ya yb
       replace hw := hw.trans (x13.mono hw.size)
       replace RE := RE.below x13 RE.lt
       replace RR := RR.below x13 RR.lt
       replace RA := RA.below x13 RA.lt
       replace RB := RB.below x13 RB.lt
       obtain ⟨s0, s1, s2, s3, f0, f1, f2, f3⟩ := cells8 RR
       obtain ⟨y0, y1, y2, y3, y4, y5, y6, y7, y8, y9, ya, yb⟩ := cells12 RE RA RB
       have F := leaf_fin (f := T) hw hB (Nat.le_succ _) RR he (by rw [← HTT.out]; unfold foldTwo; simp [HN.out, HB0.out, HB1.out, HA0.out, HA1.out])
       go_wp2_with fail
       refine bodyPost_ret (by simp [results, Tryd.results48, go_sem, s0, s1, s2, s3]) rfl F.out
      case true =>
       obtain ⟨s0, s1, s2, s3, f0, f1, f2, f3⟩ := cells8 RR
       obtain ⟨y0, y1, y2, y3, y4, y5, y6, y7, y8, y9, ya, yb⟩ := cells12 RE RA RB
       have F := leaf_fin (f := T) hw hB (Nat.le_succ _) RR hb (by rw [← HTT.out]; unfold foldTwo; simp [HN.out, HB0.out, HB1.out, HA0.out, HA1.out])
       go_wp2_with fail
       refine bodyPost_ret (by simp [results, Tryd.results48, go_sem, s0, s1, s2, s3]) rfl F.out
     case true =>
      obtain ⟨y0, y1, y2, y3, y4, y5, y6, y7, y8, y9, ya, yb⟩ := cells12 RE RA RB
      go_wp2_with fail
      refine (spec_l6Is 1 an aname (.slice A3 akids.length p3) 1 _ akids ⟨_, _, rfl⟩).mono ?_
      rw [HA1.out]
      rintro e w11 ⟨rfl, x11⟩
      clear y0 y1 y2 y3 y4 y5 y6 y7 y8 y9 ya yb
      replace hw := hw.trans (x11.mono hw.size)
      replace RE := RE.below x11 RE.lt
      replace RR := RR.below x11 RR.lt
      replace RA := RA.below x11 RA.lt
      replace RB := RB.below x11 RB.lt
      cases vA1
      case false =>
       obtain ⟨y0, y1, y2, y3, y4, y5, y6, y7, y8, y9, ya, yb⟩ := cells12 RE RA RB
       go_wp2_with fail
       refine (spec_l6Is bop bn bname (.slice A4 bkids.length p4) 0 _ bkids ⟨_, _, rfl⟩).mono ?_
       rw [HB0.out]
       rintro e w12 ⟨rfl, x12⟩
       clear y0 y1 y2 y3 y4 y5 y6 y7 y8 y9 ya yb
       replace hw := hw.trans (x12.mono hw.size)
       replace RE := RE.below x12 RE.lt
       replace RR := RR.below x12 RR.lt
       replace RA := RA.below x12 RA.lt
       replace RB := RB.below x12 RB.lt
       obtain ⟨y0, y1, y2, y3, y4, y5, y6, y7, y8, y9, ya, yb⟩ := cells12 RE RA RB
       go_wp2_with fail
       refine (spec_l6Is 1 an aname (.slice A3 akids.length p3) 0 _ akids ⟨_, _, rfl⟩).mono ?_
       rw [HA0.out]
       rintro e w13 ⟨rfl, x13⟩
       clear y0 y1 y2 y3 y4 y5 y6 y7 y8 y9 ya yb
       replace hw := hw.trans (x13.mono hw.size)
       replace RE := RE.below x13 RE.lt
       replace RR := RR.below x13 RR.lt
       replace RA := RA.below x13 RA.lt
       replace RB := RB.below x13 RB.lt
       obtain ⟨y0, y1, y2, y3, y4, y5, y6, y7, y8, y9, ya, yb⟩ := cells12 RE RA RB
       go_wp2_with fail
       refine (spec_l6Safe 6 d bop bn bname bkids (.slice A4 bkids.length p4) _ lo B (Nat.le_trans hB hw.size) ob nb sb (skb.below hw hB) fb).mono ?_
       rw [HSB.out]
       rintro e w14 ⟨rfl, x14⟩
       clear y0 y1 y2 y3 y4 y5 y6 y7 y8 y9 ya yb
       replace hw := hw.trans (x14.mono hw.size)
       replace RE := RE.below x14 RE.lt
       replace RR := RR.below x14 RR.lt
       replace RA := RA.below x14 RA.lt
       replace RB := RB.below x14 RB.lt
       cases vSB
       case false =>
        obtain ⟨s0, s1, s2, s3, f0, f1, f2, f3⟩ := cells8 RR
        obtain ⟨y0, y1, y2, y3, y4, y5, y6, y7, y8, y9, ya, yb⟩ := cells12 RE RA RB
        have F := leaf_fin (f := T) hw hB (Nat.le_succ _) RR he (by rw [← HTT.out]; unfold foldTwo; simp [HN.out, HB0.out, HB1.out, HA0.out, HA1.out, HSB.out])
        go_wp2_with fail
        refine bodyPost_ret (by simp [results, Tryd.results48, go_sem, s0, s1, s2, s3]) rfl F.out
       case true =>
        obtain ⟨y0, y1, y2, y3, y4, y5, y6, y7, y8, y9, ya, yb⟩ := cells12 RE RA RB
        go_wp2_with fail
        refine (spec_num (d + 1) (0) _ ⟨by omega, by omega⟩).mono ?_
        rintro e w15 ⟨An, cn, rfl, hnr, x15⟩
        clear y0 y1 y2 y3 y4 y5 y6 y7 y8 y9 ya yb
        replace hw := hw.trans (x15.mono hw.size)
        replace RE := RE.below x15 RE.lt
        replace RR := RR.below x15 RR.lt
        replace RA := RA.below x15 RA.lt
        replace RB := RB.below x15 RB.lt
        obtain ⟨s0, s1, s2, s3, f0, f1, f2, f3⟩ := cells8 RR
        obtain ⟨y0, y1, y2, y3, y4, y5, y6, y7, y8, y9, ya, yb⟩ := cells12 RE RA RB
        have F := leaf_fin (f := T) hw hB (Nat.le_succ _) RR (hnr w lo B) (show T = exN1 (0) by rw [← HTT.out]; unfold foldTwo; simp [HN.out, HB0.out, HB1.out, HA0.out, HA1.out, HSB.out])
        go_wp2_with fail
        refine bodyPost_ret (by simp [results, Tryd.results48, go_sem, s0, s1, s2, s3]) rfl F.out
      case true =>
       obtain ⟨s0, s1, s2, s3, f0, f1, f2, f3⟩ := cells8 RR
       obtain ⟨y0, y1, y2, y3, y4, y5, y6, y7, y8, y9, ya, yb⟩ := cells12 RE RA RB
       have F := leaf_fin (f := T) hw hB (Nat.le_succ _) RR hb (by rw [← HTT.out]; unfold foldTwo; simp [HN.out, HB0.out, HB1.out, HA0.out, HA1.out])
       go_wp2_with fail
       refine bodyPost_ret (by simp [results, Tryd.results48, go_sem, s0, s1, s2, s3]) rfl F.out
    case true =>
     obtain ⟨s0, s1, s2, s3, f0, f1, f2, f3⟩ := cells8 RR
     obtain ⟨y0, y1, y2, y3, y4, y5, y6, y7, y8, y9, ya, yb⟩ := cells12 RE RA RB
     have F := leaf_fin (f := T) hw hB (Nat.le_succ _) RR ha (by rw [← HTT.out]; unfold foldTwo; simp [HN.out, HB0.out, HB1.out])
     go_wp2_with fail
     refine bodyPost_ret (by simp [results, Tryd.results48, go_sem, s0, s1, s2, s3]) rfl F.out
   case true =>
    obtain ⟨y0, y1, y2, y3, y4, y5, y6, y7, y8, y9, ya, yb⟩ := cells12 RE RA RB
    go_wp2_with fail
    refine (spec_l6Is bop bn bname (.slice A4 bkids.length p4) 1 _ bkids ⟨_, _, rfl⟩).mono ?_
    rw [HB1.out]
    rintro e w9 ⟨rfl, x9⟩
    clear y0 y1 y2 y3 y4 y5 y6 y7 y8 y9 ya yb
    replace hw := hw.trans (x9.mono hw.size)
    replace RE := RE.below x9 RE.lt
    replace RR := RR.below x9 RR.lt
    replace RA := RA.below x9 RA.lt
    replace RB := RB.below x9 RB.lt
    cases vB1
    case false =>
     obtain ⟨y0, y1, y2, y3, y4, y5, y6, y7, y8, y9, ya, yb⟩ := cells12 RE RA RB
     go_wp2_with fail
     refine (spec_l6Is 1 an aname (.slice A3 akids.length p3) 0 _ akids ⟨_, _, rfl⟩).mono ?_
     rw [HA0.out]
     rintro e w10 ⟨rfl, x10⟩
     clear y0 y1 y2 y3 y4 y5 y6 y7 y8 y9 ya yb
     replace hw := hw.trans (x10.mono hw.size)
     replace RE := RE.below x10 RE.lt
     replace RR := RR.below x10 RR.lt
     replace RA := RA.below x10 RA.lt
     replace RB := RB.below x10 RB.lt
     cases vA0
     case false =>
      obtain ⟨y0, y1, y2, y3, y4, y5, y6, y7, y8, y9, ya, yb⟩ := cells12 RE RA RB
      go_wp2_with fail
      refine (spec_l6Is 1 an aname (.slice A3 akids.length p3) 1 _ akids ⟨_, _, rfl⟩).mono ?_
      rw [HA1.out]
      rintro e w11 ⟨rfl, x11⟩
      clear y0 y1 y2 y3 y4 y5 y6 y7 y8 y9 ya yb
      replace hw := hw.trans (x11.mono hw.size)
      replace RE := RE.below x11 RE.lt
      replace RR := RR.below x11 RR.lt
      replace RA := RA.below x11 RA.lt
      replace RB := RB.below x11 RB.lt
      cases vA1
      case false =>
       obtain ⟨y0, y1, y2, y3, y4, y5, y6, y7, y8, y9, ya, yb⟩ := cells12 RE RA RB
       go_wp2_with fail
       refine (spec_l6Is bop bn bname (.slice A4 bkids.length p4) 0 _ bkids ⟨_, _, rfl⟩).mono ?_
       rw [HB0.out]
       rintro e w12 ⟨rfl, x12⟩
       clear y0 y1 y2 y3 y4 y5 y6 y7 y8 y9 ya yb
       replace hw := hw.trans (x12.mono hw.size)
       replace RE := RE.below x12 RE.lt
       replace RR := RR.below x12 RR.lt
       replace RA := RA.below x12 RA.lt
       replace RB := RB.below x12 RB.lt
       obtain ⟨y0, y1, y2, y3, y4, y5, y6, y7, y8, y9, ya, yb⟩ := cells12 RE RA RB
       go_wp2_with fail
       refine (spec_l6Safe 6 d 1 an aname akids (.slice A3 akids.length p3) _ lo B (Nat.le_trans hB hw.size) oa na sa (ska.below hw hB) fa).mono ?_
       rw [HSA.out]
       rintro e w13 ⟨rfl, x13⟩
       clear y0 y1 y2 y3 y4 y5 y6 y7 y8 y9 ya yb
       replace hw := hw.trans (x13.mono hw.size)
       replace RE := RE.below x13 RE.lt
       replace RR := RR.below x13 RR.lt
       replace RA := RA.below x13 RA.lt
       replace RB := RB.below x13 RB.lt
       cases vSA
       case false =>
        obtain ⟨y0, y1, y2, y3, y4, y5, y6, y7, y8, y9, ya, yb⟩ := cells12 RE RA RB
        go_wp2_with fail
        refine (spec_l6Is 1 an aname (.slice A3 akids.length p3) 0 _ akids ⟨_, _, rfl⟩).mono ?_
        rw [HA0.out]
        rintro e w14 ⟨rfl, x14⟩
        clear y0 y1 y2 y3 y4 y5 y6 y7 y8 y9 ya yb
        replace hw := hw.trans (x14.mono hw.size)
        replace RE := RE.below x14 RE.lt
        replace RR := RR.below x14 RR.lt
        replace RA := RA.below x14 RA.lt
        replace RB := RB.below x14 RB.lt
        obtain ⟨s0, s1, s2, s3, f0, f1, f2, f3⟩ := cells8 RR
        obtain ⟨y0, y1, y2, y3, y4, y5, y6, y7, y8, y9, ya, yb⟩ := cells12 RE RA RB
        have F := leaf_fin (f := T) hw hB (Nat.le_succ _) RR he (by rw [← HTT.out]; unfold foldTwo; simp [HN.out, HB0.out, HB1.out, HA0.out, HA1.out, HSA.out])
        go_wp2_with fail
        refine bodyPost_ret (by simp [results, Tryd.results48, go_sem, s0, s1, s2, s3]) rfl F.out
       case true =>
        obtain ⟨y0, y1, y2, y3, y4, y5, y6, y7, y8, y9, ya, yb⟩ := cells12 RE RA RB
        go_wp2_with fail
        refine (spec_num (d + 1) (0) _ ⟨by omega, by omega⟩).mono ?_
        rintro e w14 ⟨An, cn, rfl, hnr, x14⟩
        clear y0 y1 y2 y3 y4 y5 y6 y7 y8 y9 ya yb
        replace hw := hw.trans (x14.mono hw.size)
        replace RE := RE.below x14 RE.lt
        replace RR := RR.below x14 RR.lt
        replace RA := RA.below x14 RA.lt
        replace RB := RB.below x14 RB.lt
        obtain ⟨s0, s1, s2, s3, f0, f1, f2, f3⟩ := cells8 RR
        obtain ⟨y0, y1, y2, y3, y4, y5, y6, y7, y8, y9, ya, yb⟩ := cells12 RE RA RB
        have F := leaf_fin (f := T) hw hB (Nat.le_succ _) RR (hnr w lo B) (show T = exN1 (0) by rw [← HTT.out]; unfold foldTwo; simp [HN.out, HB0.out, HB1.out, HA0.out, HA1.out, HSA.out])
        go_wp2_with fail
        refine bodyPost_ret (by simp [results, Tryd.results48, go_sem, s0, s1, s2, s3]) rfl F.out
      case true =>
       obtain ⟨s0, s1, s2, s3, f0, f1, f2, f3⟩ := cells8 RR
       obtain ⟨y0, y1, y2, y3, y4, y5, y6, y7, y8, y9, ya, yb⟩ := cells12 RE RA RB
       have F := leaf_fin (f := T) hw hB (Nat.le_succ _) RR hb (by rw [← HTT.out]; unfold foldTwo; simp [HN.out, HB0.out, HB1.out, HA0.out, HA1.out])
       go_wp2_with fail
       refine bodyPost_ret (by simp [results, Tryd.results48, go_sem, s0, s1, s2, s3]) rfl F.out
     case true =>
      obtain ⟨y0, y1, y2, y3, y4, y5, y6, y7, y8, y9, ya, yb⟩ := cells12 RE RA RB
      go_wp2_with fail
      refine (spec_l6Is 1 an aname (.slice A3 akids.length p3) 1 _ akids ⟨_, _, rfl⟩).mono ?_
      rw [HA1.out]
      rintro e w11 ⟨rfl, x11⟩
      clear y0 y1 y2 y3 y4 y5 y6 y7 y8 y9 ya yb
      replace hw := hw.trans (x11.mono hw.size)
      replace RE := RE.below x11 RE.lt
      replace RR := RR.below x11 RR.lt
      replace RA := RA.below x11 RA.lt
      replace RB := RB.below x11 RB.lt
      cases vA1
      case false =>
       obtain ⟨y0, y1, y2, y3, y4, y5, y6, y7, y8, y9, ya, yb⟩ := cells12 RE RA RB
       go_wp2_with fail
       refine (spec_l6Is bop bn bname (.slice A4 bkids.length p4) 0 _ bkids ⟨_, _, rfl⟩).mono ?_
       rw [HB0.out]
       rintro e w12 ⟨rfl, x12⟩
       clear y0 y1 y2 y3 y4 y5 y6 y7 y8 y9 ya yb
       replace hw := hw.trans (x12.mono hw.size)
       replace RE := RE.below x12 RE.lt
       replace RR := RR.below x12 RR.lt
       replace RA := RA.below x12 RA.lt
       replace RB := RB.below x12 RB.lt
       obtain ⟨y0, y1, y2, y3, y4, y5, y6, y7, y8, y9, ya, yb⟩ := cells12 RE RA RB
       go_wp2_with fail
       refine (spec_l6Safe 6 d 1 an aname akids (.slice A3 akids.length p3) _ lo B (Nat.le_trans hB hw.size) oa na sa (ska.below hw hB) fa).mono ?_
       rw [HSA.out]
       rintro e w13 ⟨rfl, x13⟩
       clear y0 y1 y2 y3 y4 y5 y6 y7 y8 y9 ya yb
       replace hw := hw.trans (x13.mono hw.size)
       replace RE := RE.below x13 RE.lt
       replace RR := RR.below x13 RR.lt
       replace RA := RA.below x13 RA.lt
       replace RB := RB.below x13 RB.lt
       cases vSA
       case false =>
        obtain ⟨y0, y1, y2, y3, y4, y5, y6, y7, y8, y9, ya, yb⟩ := cells12 RE RA RB
        go_wp2_with fail
        refine (spec_l6Is 1 an aname (.slice A3 akids.length p3) 0 _ akids ⟨_, _, rfl⟩).mono ?_
        rw [HA0.out]
        rintro e w14 ⟨rfl, x14⟩
        clear y0 y1 y2 y3 y4 y5 y6 y7 y8 y9 ya yb
        replace hw := hw.trans (x14.mono hw.size)
        replace RE := RE.below x14 RE.lt
        replace RR := RR.below x14 RR.lt
        replace RA := RA.below x14 RA.lt
        replace RB := RB.below x14 RB.lt
        obtain ⟨y0, y1, y2, y3, y4, y5, y6, y7, y8, y9, ya, yb⟩ := cells12 RE RA RB
        go_wp2_with fail
        refine (spec_l6Safe 6 d bop bn bname bkids (.slice A4 bkids.length p4) _ lo B (Nat.le_trans hB hw.size) ob nb sb (skb.below hw hB) fb).mono ?_
        rw [HSB.out]
        rintro e w15 ⟨rfl, x15⟩
        clear y0 y1 y2 y3 y4 y5 y6 y7 y8 y9 ya yb
        replace hw := hw.trans (x15.mono hw.size)
        replace RE := RE.below x15 RE.lt
        replace RR := RR.below x15 RR.lt
        replace RA := RA.below x15 RA.lt
        replace RB := RB.below x15 RB.lt
        cases vSB
        case false =>
         obtain ⟨s0, s1, s2, s3, f0, f1, f2, f3⟩ := cells8 RR
         obtain ⟨y0, y1, y2, y3, y4, y5, y6, y7, y8, y9, ya, yb⟩ := cells12 RE RA RB
         have F := leaf_fin (f := T) hw hB (Nat.le_succ _) RR he (by rw [← HTT.out]; unfold foldTwo; simp [HN.out, HB0.out, HB1.out, HA0.out, HA1.out, HSA.out, HSB.out])
         go_wp2_with fail
         refine bodyPost_ret (by simp [results, Tryd.results48, go_sem, s0, s1, s2, s3]) rfl F.out
        case true =>
         obtain ⟨y0, y1, y2, y3, y4, y5, y6, y7, y8, y9, ya, yb⟩ := cells12 RE RA RB
         go_wp2_with fail
         refine (spec_num (d + 1) (0) _ ⟨by omega, by omega⟩).mono ?_
         rintro e w16 ⟨An, cn, rfl, hnr, x16⟩
         clear y0 y1 y2 y3 y4 y5 y6 y7 y8 y9 ya yb
         replace hw := hw.trans (x16.mono hw.size)
         replace RE := RE.below x16 RE.lt
         replace RR := RR.below x16 RR.lt
         replace RA := RA.below x16 RA.lt
         replace RB := RB.below x16 RB.lt
         obtain ⟨s0, s1, s2, s3, f0, f1, f2, f3⟩ := cells8 RR
         obtain ⟨y0, y1, y2, y3, y4, y5, y6, y7, y8, y9, ya, yb⟩ := cells12 RE RA RB
         have F := leaf_fin (f := T) hw hB (Nat.le_succ _) RR (hnr w lo B) (show T = exN1 (0) by rw [← HTT.out]; unfold foldTwo; simp [HN.out, HB0.out, HB1.out, HA0.out, HA1.out, HSA.out, HSB.out])
         go_wp2_with fail
         refine bodyPost_ret (by simp [results, Tryd.results48, go_sem, s0, s1, s2, s3]) rfl F.out
       case true =>
        obtain ⟨y0, y1, y2, y3, y4, y5, y6, y7, y8, y9, ya, yb⟩ := cells12 RE RA RB
        go_wp2_with fail
        refine (spec_num (d + 1) (0) _ ⟨by omega, by omega⟩).mono ?_
        rintro e w14 ⟨An, cn, rfl, hnr, x14⟩
        clear y0 y1 y2 y3 y4 y5 y6 y7 y8 y9 ya yb
        replace hw := hw.trans (x14.mono hw.size)
        replace RE := RE.below x14 RE.lt
        replace RR := RR.below x14 RR.lt
        replace RA := RA.below x14 RA.lt
        replace RB := RB.below x14 RB.lt
        obtain ⟨s0, s1, s2, s3, f0, f1, f2, f3⟩ := cells8 RR
        obtain ⟨y0, y1, y2, y3, y4, y5, y6, y7, y8, y9, ya, yb⟩ := cells12 RE RA RB
        have F := leaf_fin (f := T) hw hB (Nat.le_succ _) RR (hnr w lo B) (show T = exN1 (0) by rw [← HTT.out]; unfold foldTwo; simp [HN.out, HB0.out, HB1.out, HA0.out, HA1.out, HSA.out])
        go_wp2_with fail
        refine bodyPost_ret (by simp [results, Tryd.results48, go_sem, s0, s1, s2, s3]) rfl F.out
      case true =>
       obtain ⟨s0, s1, s2, s3, f0, f1, f2, f3⟩ := cells8 RR
       obtain ⟨y0, y1, y2, y3, y4, y5, y6, y7, y8, y9, ya, yb⟩ := cells12 RE RA RB
       have F := leaf_fin (f := T) hw hB (Nat.le_succ _) RR hb (by rw [← HTT.out]; unfold foldTwo; simp [HN.out, HB0.out, HB1.out, HA0.out, HA1.out])
       go_wp2_with fail
       refine bodyPost_ret (by simp [results, Tryd.results48, go_sem, s0, s1, s2, s3]) rfl F.out
    case true =>
     obtain ⟨s0, s1, s2, s3, f0, f1, f2, f3⟩ := cells8 RR
     obtain ⟨y0, y1, y2, y3, y4, y5, y6, y7, y8, y9, ya, yb⟩ := cells12 RE RA RB
     have F := leaf_fin (f := T) hw hB (Nat.le_succ _) RR ha (by rw [← HTT.out]; unfold foldTwo; simp [HN.out, HB0.out, HB1.out])
     go_wp2_with fail
     refine bodyPost_ret (by simp [results, Tryd.results48, go_sem, s0, s1, s2, s3]) rfl F.out
  subst qa qb
  obtain ⟨an0, an1⟩ := ra rfl
  obtain ⟨bn0, bn1⟩ := rb rfl
  clear ra rb
  have hv : (arV 5 an bn).2 = true := by simp [arV]
  have HN : Hid (numB 5 (Ex.mk 1 an aname akids) (Ex.mk 1 bn bname bkids) = true) := by show _ = _; simp [numB, Ex.op, Ex.n, hv]
  have HV := Lib.hid (show endC (arV 5 an bn).2 = 0 by rw [hv]; rfl)
  have hI : I64 (arV 5 an bn).1 := by
    have := arV_range (op := 5) an0 an1 bn0 bn1
    exact ⟨by omega, by omega⟩
  clear hv
  obtain ⟨y0, y1, y2, y3, y4, y5, y6, y7, y8, y9, ya, yb⟩ := cells12 RE RA RB
  go_wp2_with fail
  refine (spec_l5Eval_two (d + 1) 5 n name [(Ex.mk 1 an aname akids), (Ex.mk 1 bn bname bkids)] _ p _ lo B an bn aname bname akids bkids (Nat.le_trans hB hw.size) (h3s.below hw hB) rfl an0 an1 bn0 bn1 (by omega) (by omega)).mono ?_
  rw [HV.out]
  rintro e w8 ⟨rfl, x8⟩
  clear y0 y1 y2 y3 y4 y5 y6 y7 y8 y9 ya yb
  replace hw := hw.trans (x8.mono hw.size)
  replace RE := RE.below x8 RE.lt
  replace RR := RR.below x8 RR.lt
  replace RA := RA.below x8 RA.lt
  replace RB := RB.below x8 RB.lt
  obtain ⟨y0, y1, y2, y3, y4, y5, y6, y7, y8, y9, ya, yb⟩ := cells12 RE RA RB
  go_wp2_with fail
  refine (spec_num (d + 1) ((arV 5 an bn).1) _ hI).mono ?_
  rintro e w9 ⟨An, cn, rfl, hnr, x9⟩
  clear y0 y1 y2 y3 y4 y5 y6 y7 y8 y9 ya yb
  replace hw := hw.trans (x9.mono hw.size)
  replace RE := RE.below x9 RE.lt
  replace RR := RR.below x9 RR.lt
  replace RA := RA.below x9 RA.lt
  replace RB := RB.below x9 RB.lt
  obtain ⟨s0, s1, s2, s3, f0, f1, f2, f3⟩ := cells8 RR
  obtain ⟨y0, y1, y2, y3, y4, y5, y6, y7, y8, y9, ya, yb⟩ := cells12 RE RA RB
  have F := leaf_fin (f := T) hw hB (Nat.le_succ _) RR (hnr w lo B) (show T = exN1 ((arV 5 an bn).1) by rw [← HTT.out]; unfold foldTwo; rw [if_pos HN.out]; rfl)
  go_wp2_with fail
  refine bodyPost_ret (by simp [results, Tryd.results48, go_sem, s0, s1, s2, s3]) rfl F.out
end Go.Proofs.YthfinoapfbhgcaaDoor

namespace Go.Proofs.YthfinoapfbhgcaaDoor
open Go.RowKit Go.ChangeShapes Go.WideShapes Go.Deep
set_option linter.unusedVariables false
set_option linter.unusedSimpArgs false
set_option maxRecDepth 100000 in
set_option maxHeartbeats 16000000 in
theorem spec_l6Part_6 (d : Nat) (n : Int) (name : ByteArray) (aop an : Int) (aname : ByteArray) (akids : List Ex) (bop bn : Int) (bname : ByteArray) (bkids : List Ex) (A : Option Addr) (p : Nat) (w : World) (lo B : Nat) (hB : B ≤ w.heap.size) (hn : I64 n) (hnm : name.size ≤ maxLen)
    (h3 : ∀ m, SlT m (exT m (d + 1)) w lo B [.mk aop an aname akids, .mk bop bn bname bkids] (.slice A 2 p)) (ra : aop = 1 → 0 ≤ an ∧ an ≤ 255) (rb : bop = 1 → 0 ≤ bn ∧ bn ≤ 255) (fa : formB 6 (.mk aop an aname akids) = true) (fb : formB 6 (.mk bop bn bname bkids) = true) :
    Calls Tryd.prog 48 #[.agg #[.int .i64 6, .int .i64 n, .string name, .slice A 2 p]] w (FoldRP (d + 1) (foldTwo 6 (Ex.mk aop an aname akids) (Ex.mk bop bn bname bkids) (Ex.mk 6 n name [(Ex.mk aop an aname akids), (Ex.mk bop bn bname bkids)])) lo B w) := by
  obtain ⟨blk, op1, n1, nm1, k1, A3, p3, rfl, hlb, hbB, HL1, oa, na, sa, ha', c0, c1, c2, c3⟩ := exT_get d h3 (show 0 < 2 by omega)
  have e1 := HL1.out
  injection e1 with e1 e2 e3 e4
  subst e1 e2 e3 e4
  obtain ⟨blk', op2, n2, nm2, k2, A4, p4, hA, _, _, HL2, ob, nb, sb, hb', c4, c5, c6, c7⟩ := exT_get d h3 (show 1 < 2 by omega)
  injection hA with hA
  injection hA with hA
  subst hA
  have e1 := HL2.out
  injection e1 with e1 e2 e3 e4
  subst e1 e2 e3 e4
  have he : ∀ m, (exT m (d + 1 + 1)).rep w lo B (Ex.mk 6 n name [(Ex.mk aop an aname akids), (Ex.mk bop bn bname bkids)]) [.int .i64 6, .int .i64 n, .string name, .slice (some ⟨blk, 0, none⟩) 2 p] := fun m => exT_mk m (d + 1) 6 n name _ _ ⟨by omega, by omega⟩ hn hnm (h3 m)
  have ha : ∀ m, (exT m (d + 1 + 1)).rep w lo B (Ex.mk aop an aname akids) [.int .i64 aop, .int .i64 an, .string aname, .slice A3 akids.length p3] := fun m => exT_le m (Nat.le_succ _) (ha' m)
  have hb : ∀ m, (exT m (d + 1 + 1)).rep w lo B (Ex.mk bop bn bname bkids) [.int .i64 bop, .int .i64 bn, .string bname, .slice A4 bkids.length p4] := fun m => exT_le m (Nat.le_succ _) (hb' m)
  have ska : Sl false (exS false d) w lo B akids (.slice A3 akids.length p3) := (exT_kids d (ha' false)).exS
  have skb : Sl false (exS false d) w lo B bkids (.slice A4 bkids.length p4) := (exT_kids d (hb' false)).exS
  have h3s : Sl false (exS false (d + 1)) w lo B [(Ex.mk aop an aname akids), (Ex.mk bop bn bname bkids)] (.slice (some ⟨blk, 0, none⟩) 2 p) := (h3 false).exS
  clear ha' hb' h3 HL1 HL2
  obtain ⟨T, hTT⟩ : ∃ T, foldTwo 6 (Ex.mk aop an aname akids) (Ex.mk bop bn bname bkids) (Ex.mk 6 n name [(Ex.mk aop an aname akids), (Ex.mk bop bn bname bkids)]) = T := ⟨_, rfl⟩
  rw [hTT]
  have HTT := Lib.hid hTT
  clear hTT
  have hblk : blk < w.heap.size := by omega
  obtain ⟨vA0, hvA0⟩ : ∃ v, isN (Ex.mk aop an aname akids) 0 = v := ⟨_, rfl⟩
  obtain ⟨vA1, hvA1⟩ : ∃ v, isN (Ex.mk aop an aname akids) 1 = v := ⟨_, rfl⟩
  obtain ⟨vB0, hvB0⟩ : ∃ v, isN (Ex.mk bop bn bname bkids) 0 = v := ⟨_, rfl⟩
  obtain ⟨vB1, hvB1⟩ : ∃ v, isN (Ex.mk bop bn bname bkids) 1 = v := ⟨_, rfl⟩
  obtain ⟨vSA, hvSA⟩ : ∃ v, safeE 6 (Ex.mk aop an aname akids) = v := ⟨_, rfl⟩
  obtain ⟨vSB, hvSB⟩ : ∃ v, safeE 6 (Ex.mk bop bn bname bkids) = v := ⟨_, rfl⟩
  have HA0 := Lib.hid hvA0
  have HA1 := Lib.hid hvA1
  have HB0 := Lib.hid hvB0
  have HB1 := Lib.hid hvB1
  have HSA := Lib.hid hvSA
  have HSB := Lib.hid hvSB
  clear hvA0 hvA1 hvB0 hvB1 hvSA hvSB

  have hw : Below w.heap.size w ((w.alloc (.cells #[.int .i64 6, .int .i64 n, .string name, .slice (some ⟨blk, 0, none⟩) 2 p] 25)).alloc (.cells #[.int .i64 0, .int .i64 0, .string ⟨#[]⟩, .slice none 0 0] 25)) := ((Below.refl _ _).alloc (Nat.le_refl _) _).alloc (by simp) _
  have RE : Row _ w.heap.size 25 #[.int .i64 6, .int .i64 n, .string name, .slice (some ⟨blk, 0, none⟩) 2 p] := (Row.new w _ _).alloc (.cells #[.int .i64 0, .int .i64 0, .string ⟨#[]⟩, .slice none 0 0] 25)
  have RR : Row ((w.alloc (.cells #[.int .i64 6, .int .i64 n, .string name, .slice (some ⟨blk, 0, none⟩) 2 p] 25)).alloc (.cells #[.int .i64 0, .int .i64 0, .string ⟨#[]⟩, .slice none 0 0] 25)) (w.heap.size + 1) 25 #[.int .i64 0, .int .i64 0, .string ⟨#[]⟩, .slice none 0 0] := by simpa using Row.new (w.alloc (.cells #[.int .i64 6, .int .i64 n, .string name, .slice (some ⟨blk, 0, none⟩) 2 p] 25)) 25 #[.int .i64 0, .int .i64 0, .string ⟨#[]⟩, .slice none 0 0]
  go_enter Tryd.func48, Tryd.ntmps48
  go_wp2_with fail
  refine (spec_l1In 6 3 10 _).mono ?_
  rw [show inB 6 3 10 = true from by decide]
  rintro e w5 ⟨rfl, hw5⟩
  rw [hw5] at hw RE RR
  clear hw5
  obtain ⟨k0, k1, k2, k3, k4, k5, k6, k7⟩ := kids8 hw hblk c0 c1 c2 c3 c4 c5 c6 c7
  obtain ⟨z0, z1, z2, z3⟩ := cells4 RE
  have y_6 := (Below.refl _ w5).alloc (Nat.le_refl _) (.cells #[.int .i64 aop, .int .i64 an, .string aname, .slice A3 akids.length p3] 25)
  replace hw := hw.trans (y_6.mono hw.size)
  replace RE := RE.below y_6 RE.lt
  replace RR := RR.below y_6 RR.lt
  have RA : Row _ _ _ #[.int .i64 aop, .int .i64 an, .string aname, .slice A3 akids.length p3] := Row.new w5 25 _
  obtain ⟨l0, l1, l2, l3, l4, l5, l6, l7⟩ := kids8 hw hblk c0 c1 c2 c3 c4 c5 c6 c7
  obtain ⟨t0, t1, t2, t3⟩ := cells4 RE
  have y_7 := (Below.refl _ (w5.alloc (.cells #[.int .i64 aop, .int .i64 an, .string aname, .slice A3 akids.length p3] 25))).alloc (Nat.le_refl _) (.cells #[.int .i64 bop, .int .i64 bn, .string bname, .slice A4 bkids.length p4] 25)
  replace hw := hw.trans (y_7.mono hw.size)
  replace RE := RE.below y_7 RE.lt
  replace RR := RR.below y_7 RR.lt
  replace RA := RA.below y_7 RA.lt
  have RB : Row ((w5.alloc (.cells #[.int .i64 aop, .int .i64 an, .string aname, .slice A3 akids.length p3] 25)).alloc (.cells #[.int .i64 bop, .int .i64 bn, .string bname, .slice A4 bkids.length p4] 25)) (w5.heap.size + 1) 25 #[.int .i64 bop, .int .i64 bn, .string bname, .slice A4 bkids.length p4] := by simpa using Row.new (w5.alloc (.cells #[.int .i64 aop, .int .i64 an, .string aname, .slice A3 akids.length p3] 25)) 25 #[.int .i64 bop, .int .i64 bn, .string bname, .slice A4 bkids.length p4]
  clear c0 c1 c2 c3 c4 c5 c6 c7
  by_cases qa : aop = 1
  case neg =>
   have qa' : (aop == 1) = false := by simpa using qa
   have HN : Hid (numB 6 (Ex.mk aop an aname akids) (Ex.mk bop bn bname bkids) = false) := by show _ = _; simp [numB, Ex.op, qa]
   clear qa
   obtain ⟨y0, y1, y2, y3, y4, y5, y6, y7, y8, y9, ya, yb⟩ := cells12 RE RA RB
   go_wp2_with fail
   refine (spec_l6Is bop bn bname (.slice A4 bkids.length p4) 0 _ bkids ⟨_, _, rfl⟩).mono ?_
   rw [HB0.out]
   rintro e w8 ⟨rfl, x8⟩
   clear y0 y1 y2 y3 y4 y5 y6 y7 y8 y9 ya yb
   replace hw := hw.trans (x8.mono hw.size)
   replace RE := RE.below x8 RE.lt
   replace RR := RR.below x8 RR.lt
   replace RA := RA.below x8 RA.lt
   replace RB := RB.below x8 RB.lt
   cases vB0
   case false =>
    obtain ⟨y0, y1, y2, y3, y4, y5, y6, y7, y8, y9, ya, yb⟩ := cells12 RE RA RB
    go_wp2_with fail
    refine (spec_l6Is bop bn bname (.slice A4 bkids.length p4) 1 _ bkids ⟨_, _, rfl⟩).mono ?_
    rw [HB1.out]
    rintro e w9 ⟨rfl, x9⟩
    clear y0 y1 y2 y3 y4 y5 y6 y7 y8 y9 ya yb
    replace hw := hw.trans (x9.mono hw.size)
    replace RE := RE.below x9 RE.lt
    replace RR := RR.below x9 RR.lt
    replace RA := RA.below x9 RA.lt
    replace RB := RB.below x9 RB.lt
    cases vB1
    case false =>
     obtain ⟨y0, y1, y2, y3, y4, y5, y6, y7, y8, y9, ya, yb⟩ := cells12 RE RA RB
     go_wp2_with fail
     refine (spec_l6Is aop an aname (.slice A3 akids.length p3) 0 _ akids ⟨_, _, rfl⟩).mono ?_
     rw [HA0.out]
     rintro e w10 ⟨rfl, x10⟩
     clear y0 y1 y2 y3 y4 y5 y6 y7 y8 y9 ya yb
     replace hw := hw.trans (x10.mono hw.size)
     replace RE := RE.below x10 RE.lt
     replace RR := RR.below x10 RR.lt
     replace RA := RA.below x10 RA.lt
     replace RB := RB.below x10 RB.lt
     cases vA0
     case false =>
      obtain ⟨y0, y1, y2, y3, y4, y5, y6, y7, y8, y9, ya, yb⟩ := cells12 RE RA RB
      go_wp2_with fail
      refine (spec_l6Is aop an aname (.slice A3 akids.length p3) 1 _ akids ⟨_, _, rfl⟩).mono ?_
      rw [HA1.out]
      rintro e w11 ⟨rfl, x11⟩
      clear y0 y1 y2 y3 y4 y5 y6 y7 y8 y9 ya yb
      replace hw := hw.trans (x11.mono hw.size)
      replace RE := RE.below x11 RE.lt
      replace RR := RR.below x11 RR.lt
      replace RA := RA.below x11 RA.lt
      replace RB := RB.below x11 RB.lt
      cases vA1
      case false =>
       obtain ⟨s0, s1, s2, s3, f0, f1, f2, f3⟩ := cells8 RR
       obtain ⟨y0, y1, y2, y3, y4, y5, y6, y7, y8, y9, ya, yb⟩ := cells12 RE RA RB
       have F := leaf_fin (f := T) hw hB (Nat.le_succ _) RR he (by rw [← HTT.out]; unfold foldTwo; simp [HN.out, HB0.out, HB1.out, HA0.out, HA1.out])
       go_wp2_with fail
       refine bodyPost_ret (by simp [results, Tryd.results48, go_sem, s0, s1, s2, s3]) rfl F.out
      case true =>
       obtain ⟨s0, s1, s2, s3, f0, f1, f2, f3⟩ := cells8 RR
       obtain ⟨y0, y1, y2, y3, y4, y5, y6, y7, y8, y9, ya, yb⟩ := cells12 RE RA RB
       have F := leaf_fin (f := T) hw hB (Nat.le_succ _) RR he (by rw [← HTT.out]; unfold foldTwo; simp [HN.out, HB0.out, HB1.out, HA0.out, HA1.out])
       go_wp2_with fail
       refine bodyPost_ret (by simp [results, Tryd.results48, go_sem, s0, s1, s2, s3]) rfl F.out
     case true =>
      obtain ⟨y0, y1, y2, y3, y4, y5, y6, y7, y8, y9, ya, yb⟩ := cells12 RE RA RB
      go_wp2_with fail
      refine (spec_l6Is aop an aname (.slice A3 akids.length p3) 1 _ akids ⟨_, _, rfl⟩).mono ?_
      rw [HA1.out]
      rintro e w11 ⟨rfl, x11⟩
      clear y0 y1 y2 y3 y4 y5 y6 y7 y8 y9 ya yb
      replace hw := hw.trans (x11.mono hw.size)
      replace RE := RE.below x11 RE.lt
      replace RR := RR.below x11 RR.lt
      replace RA := RA.below x11 RA.lt
      replace RB := RB.below x11 RB.lt
      cases vA1
      case false =>
       obtain ⟨s0, s1, s2, s3, f0, f1, f2, f3⟩ := cells8 RR
       obtain ⟨y0, y1, y2, y3, y4, y5, y6, y7, y8, y9, ya, yb⟩ := cells12 RE RA RB
       have F := leaf_fin (f := T) hw hB (Nat.le_succ _) RR he (by rw [← HTT.out]; unfold foldTwo; simp [HN.out, HB0.out, HB1.out, HA0.out, HA1.out])
       go_wp2_with fail
       refine bodyPost_ret (by simp [results, Tryd.results48, go_sem, s0, s1, s2, s3]) rfl F.out
      case true =>
       obtain ⟨s0, s1, s2, s3, f0, f1, f2, f3⟩ := cells8 RR
       obtain ⟨y0, y1, y2, y3, y4, y5, y6, y7, y8, y9, ya, yb⟩ := cells12 RE RA RB
       have F := leaf_fin (f := T) hw hB (Nat.le_succ _) RR he (by rw [← HTT.out]; unfold foldTwo; simp [HN.out, HB0.out, HB1.out, HA0.out, HA1.out])
       go_wp2_with fail
       refine bodyPost_ret (by simp [results, Tryd.results48, go_sem, s0, s1, s2, s3]) rfl F.out
    case true =>
     obtain ⟨s0, s1, s2, s3, f0, f1, f2, f3⟩ := cells8 RR
     obtain ⟨y0, y1, y2, y3, y4, y5, y6, y7, y8, y9, ya, yb⟩ := cells12 RE RA RB
     have F := leaf_fin (f := T) hw hB (Nat.le_succ _) RR ha (by rw [← HTT.out]; unfold foldTwo; simp [HN.out, HB0.out, HB1.out])
     go_wp2_with fail
     refine bodyPost_ret (by simp [results, Tryd.results48, go_sem, s0, s1, s2, s3]) rfl F.out
   case true =>
    obtain ⟨y0, y1, y2, y3, y4, y5, y6, y7, y8, y9, ya, yb⟩ := cells12 RE RA RB
    go_wp2_with fail
    refine (spec_l6Is bop bn bname (.slice A4 bkids.length p4) 1 _ bkids ⟨_, _, rfl⟩).mono ?_
    rw [HB1.out]
    rintro e w9 ⟨rfl, x9⟩
    clear y0 y1 y2 y3 y4 y5 y6 y7 y8 y9 ya yb
    replace hw := hw.trans (x9.mono hw.size)
    replace RE := RE.below x9 RE.lt
    replace RR := RR.below x9 RR.lt
    replace RA := RA.below x9 RA.lt
    replace RB := RB.below x9 RB.lt
    cases vB1
    case false =>
     obtain ⟨y0, y1, y2, y3, y4, y5, y6, y7, y8, y9, ya, yb⟩ := cells12 RE RA RB
     go_wp2_with fail
     refine (spec_l6Is aop an aname (.slice A3 akids.length p3) 0 _ akids ⟨_, _, rfl⟩).mono ?_
     rw [HA0.out]
     rintro e w10 ⟨rfl, x10⟩
     clear y0 y1 y2 y3 y4 y5 y6 y7 y8 y9 ya yb
     replace hw := hw.trans (x10.mono hw.size)
     replace RE := RE.below x10 RE.lt
     replace RR := RR.below x10 RR.lt
     replace RA := RA.below x10 RA.lt
     replace RB := RB.below x10 RB.lt
     cases vA0
     case false =>
      obtain ⟨y0, y1, y2, y3, y4, y5, y6, y7, y8, y9, ya, yb⟩ := cells12 RE RA RB
      go_wp2_with fail
      refine (spec_l6Is aop an aname (.slice A3 akids.length p3) 1 _ akids ⟨_, _, rfl⟩).mono ?_
      rw [HA1.out]
      rintro e w11 ⟨rfl, x11⟩
      clear y0 y1 y2 y3 y4 y5 y6 y7 y8 y9 ya yb
      replace hw := hw.trans (x11.mono hw.size)
      replace RE := RE.below x11 RE.lt
      replace RR := RR.below x11 RR.lt
      replace RA := RA.below x11 RA.lt
      replace RB := RB.below x11 RB.lt
      cases vA1
      case false =>
       obtain ⟨s0, s1, s2, s3, f0, f1, f2, f3⟩ := cells8 RR
       obtain ⟨y0, y1, y2, y3, y4, y5, y6, y7, y8, y9, ya, yb⟩ := cells12 RE RA RB
       have F := leaf_fin (f := T) hw hB (Nat.le_succ _) RR he (by rw [← HTT.out]; unfold foldTwo; simp [HN.out, HB0.out, HB1.out, HA0.out, HA1.out])
       go_wp2_with fail
       refine bodyPost_ret (by simp [results, Tryd.results48, go_sem, s0, s1, s2, s3]) rfl F.out
      case true =>
       obtain ⟨s0, s1, s2, s3, f0, f1, f2, f3⟩ := cells8 RR
       obtain ⟨y0, y1, y2, y3, y4, y5, y6, y7, y8, y9, ya, yb⟩ := cells12 RE RA RB
       have F := leaf_fin (f := T) hw hB (Nat.le_succ _) RR he (by rw [← HTT.out]; unfold foldTwo; simp [HN.out, HB0.out, HB1.out, HA0.out, HA1.out])
       go_wp2_with fail
       refine bodyPost_ret (by simp [results, Tryd.results48, go_sem, s0, s1, s2, s3]) rfl F.out
     case true =>
      obtain ⟨y0, y1, y2, y3, y4, y5, y6, y7, y8, y9, ya, yb⟩ := cells12 RE RA RB
      go_wp2_with fail
      refine (spec_l6Is aop an aname (.slice A3 akids.length p3) 1 _ akids ⟨_, _, rfl⟩).mono ?_
      rw [HA1.out]
      rintro e w11 ⟨rfl, x11⟩
      clear y0 y1 y2 y3 y4 y5 y6 y7 y8 y9 ya yb
      replace hw := hw.trans (x11.mono hw.size)
      replace RE := RE.below x11 RE.lt
      replace RR := RR.below x11 RR.lt
      replace RA := RA.below x11 RA.lt
      replace RB := RB.below x11 RB.lt
      cases vA1
      case false =>
       obtain ⟨s0, s1, s2, s3, f0, f1, f2, f3⟩ := cells8 RR
       obtain ⟨y0, y1, y2, y3, y4, y5, y6, y7, y8, y9, ya, yb⟩ := cells12 RE RA RB
       have F := leaf_fin (f := T) hw hB (Nat.le_succ _) RR he (by rw [← HTT.out]; unfold foldTwo; simp [HN.out, HB0.out, HB1.out, HA0.out, HA1.out])
       go_wp2_with fail
       refine bodyPost_ret (by simp [results, Tryd.results48, go_sem, s0, s1, s2, s3]) rfl F.out
      case true =>
       obtain ⟨s0, s1, s2, s3, f0, f1, f2, f3⟩ := cells8 RR
       obtain ⟨y0, y1, y2, y3, y4, y5, y6, y7, y8, y9, ya, yb⟩ := cells12 RE RA RB
       have F := leaf_fin (f := T) hw hB (Nat.le_succ _) RR he (by rw [← HTT.out]; unfold foldTwo; simp [HN.out, HB0.out, HB1.out, HA0.out, HA1.out])
       go_wp2_with fail
       refine bodyPost_ret (by simp [results, Tryd.results48, go_sem, s0, s1, s2, s3]) rfl F.out
    case true =>
     obtain ⟨s0, s1, s2, s3, f0, f1, f2, f3⟩ := cells8 RR
     obtain ⟨y0, y1, y2, y3, y4, y5, y6, y7, y8, y9, ya, yb⟩ := cells12 RE RA RB
     have F := leaf_fin (f := T) hw hB (Nat.le_succ _) RR ha (by rw [← HTT.out]; unfold foldTwo; simp [HN.out, HB0.out, HB1.out])
     go_wp2_with fail
     refine bodyPost_ret (by simp [results, Tryd.results48, go_sem, s0, s1, s2, s3]) rfl F.out
  by_cases qb : bop = 1
  case neg =>
   have qb' : (bop == 1) = false := by simpa using qb
   have HN : Hid (numB 6 (Ex.mk aop an aname akids) (Ex.mk bop bn bname bkids) = false) := by show _ = _; simp [numB, Ex.op, qb]
   subst qa
   clear qb
   obtain ⟨y0, y1, y2, y3, y4, y5, y6, y7, y8, y9, ya, yb⟩ := cells12 RE RA RB
   go_wp2_with fail
   refine (spec_l6Is bop bn bname (.slice A4 bkids.length p4) 0 _ bkids ⟨_, _, rfl⟩).mono ?_
   rw [HB0.out]
   rintro e w8 ⟨rfl, x8⟩
   clear y0 y1 y2 y3 y4 y5 y6 y7 y8 y9 ya yb
   replace hw := hw.trans (x8.mono hw.size)
   replace RE := RE.below x8 RE.lt
   replace RR := RR.below x8 RR.lt
   replace RA := RA.below x8 RA.lt
   replace RB := RB.below x8 RB.lt
   cases vB0
   case false =>
    obtain ⟨y0, y1, y2, y3, y4, y5, y6, y7, y8, y9, ya, yb⟩ := cells12 RE RA RB
    go_wp2_with fail
    refine (spec_l6Is bop bn bname (.slice A4 bkids.length p4) 1 _ bkids ⟨_, _, rfl⟩).mono ?_
    rw [HB1.out]
    rintro e w9 ⟨rfl, x9⟩
    clear y0 y1 y2 y3 y4 y5 y6 y7 y8 y9 ya yb
    replace hw := hw.trans (x9.mono hw.size)
    replace RE := RE.below x9 RE.lt
    replace RR := RR.below x9 RR.lt
    replace RA := RA.below x9 RA.lt
    replace RB := RB.below x9 RB.lt
    cases vB1
    case false =>
     obtain ⟨y0, y1, y2, y3, y4, y5, y6, y7, y8, y9, ya, yb⟩ := cells12 RE RA RB
     go_wp2_with fail
     refine (spec_l6Is 1 an aname (.slice A3 akids.length p3) 0 _ akids ⟨_, _, rfl⟩).mono ?_
     rw [HA0.out]
     rintro e w10 ⟨rfl, x10⟩
     clear y0 y1 y2 y3 y4 y5 y6 y7 y8 y9 ya yb
     replace hw := hw.trans (x10.mono hw.size)
     replace RE := RE.below x10 RE.lt
     replace RR := RR.below x10 RR.lt
     replace RA := RA.below x10 RA.lt
     replace RB := RB.below x10 RB.lt
     cases vA0
     case false =>
      obtain ⟨y0, y1, y2, y3, y4, y5, y6, y7, y8, y9, ya, yb⟩ := cells12 RE RA RB
      go_wp2_with fail
      refine (spec_l6Is 1 an aname (.slice A3 akids.length p3) 1 _ akids ⟨_, _, rfl⟩).mono ?_
      rw [HA1.out]
      rintro e w11 ⟨rfl, x11⟩
      clear y0 y1 y2 y3 y4 y5 y6 y7 y8 y9 ya yb
      replace hw := hw.trans (x11.mono hw.size)
      replace RE := RE.below x11 RE.lt
      replace RR := RR.below x11 RR.lt
      replace RA := RA.below x11 RA.lt
      replace RB := RB.below x11 RB.lt
      cases vA1
      case false =>
       obtain ⟨s0, s1, s2, s3, f0, f1, f2, f3⟩ := cells8 RR
       obtain ⟨y0, y1, y2, y3, y4, y5, y6, y7, y8, y9, ya, yb⟩ := cells12 RE RA RB
       have F := leaf_fin (f := T) hw hB (Nat.le_succ _) RR he (by rw [← HTT.out]; unfold foldTwo; simp [HN.out, HB0.out, HB1.out, HA0.out, HA1.out])
       go_wp2_with fail
       refine bodyPost_ret (by simp [results, Tryd.results48, go_sem, s0, s1, s2, s3]) rfl F.out
      case true =>
       obtain ⟨s0, s1, s2, s3, f0, f1, f2, f3⟩ := cells8 RR
       obtain ⟨y0, y1, y2, y3, y4, y5, y6, y7, y8, y9, ya, yb⟩ := cells12 RE RA RB
       have F := leaf_fin (f := T) hw hB (Nat.le_succ _) RR he (by rw [← HTT.out]; unfold foldTwo; simp [HN.out, HB0.out, HB1.out, HA0.out, HA1.out])
       go_wp2_with fail
       refine bodyPost_ret (by simp [results, Tryd.results48, go_sem, s0, s1, s2, s3]) rfl F.out
     case true =>
      obtain ⟨y0, y1, y2, y3, y4, y5, y6, y7, y8, y9, ya, yb⟩ := cells12 RE RA RB
      go_wp2_with fail
      refine (spec_l6Is 1 an aname (.slice A3 akids.length p3) 1 _ akids ⟨_, _, rfl⟩).mono ?_
      rw [HA1.out]
      rintro e w11 ⟨rfl, x11⟩
      clear y0 y1 y2 y3 y4 y5 y6 y7 y8 y9 ya yb
      replace hw := hw.trans (x11.mono hw.size)
      replace RE := RE.below x11 RE.lt
      replace RR := RR.below x11 RR.lt
      replace RA := RA.below x11 RA.lt
      replace RB := RB.below x11 RB.lt
      cases vA1
      case false =>
       obtain ⟨s0, s1, s2, s3, f0, f1, f2, f3⟩ := cells8 RR
       obtain ⟨y0, y1, y2, y3, y4, y5, y6, y7, y8, y9, ya, yb⟩ := cells12 RE RA RB
       have F := leaf_fin (f := T) hw hB (Nat.le_succ _) RR he (by rw [← HTT.out]; unfold foldTwo; simp [HN.out, HB0.out, HB1.out, HA0.out, HA1.out])
       go_wp2_with fail
       refine bodyPost_ret (by simp [results, Tryd.results48, go_sem, s0, s1, s2, s3]) rfl F.out
      case true =>
       obtain ⟨s0, s1, s2, s3, f0, f1, f2, f3⟩ := cells8 RR
       obtain ⟨y0, y1, y2, y3, y4, y5, y6, y7, y8, y9, ya, yb⟩ := cells12 RE RA RB
       have F := leaf_fin (f := T) hw hB (Nat.le_succ _) RR he (by rw [← HTT.out]; unfold foldTwo; simp [HN.out, HB0.out, HB1.out, HA0.out, HA1.out])
       go_wp2_with fail
       refine bodyPost_ret (by simp [results, Tryd.results48, go_sem, s0, s1, s2, s3]) rfl F.out
    case true =>
     obtain ⟨s0, s1, s2, s3, f0, f1, f2, f3⟩ := cells8 RR
     obtain ⟨y0, y1, y2, y3, y4, y5, y6, y7, y8, y9, ya, yb⟩ := cells12 RE RA RB
     have F := leaf_fin (f := T) hw hB (Nat.le_succ _) RR ha (by rw [← HTT.out]; unfold foldTwo; simp [HN.out, HB0.out, HB1.out])
     go_wp2_with fail
     refine bodyPost_ret (by simp [results, Tryd.results48, go_sem, s0, s1, s2, s3]) rfl F.out
   case true =>
    obtain ⟨y0, y1, y2, y3, y4, y5, y6, y7, y8, y9, ya, yb⟩ := cells12 RE RA RB
    go_wp2_with fail
    refine (spec_l6Is bop bn bname (.slice A4 bkids.length p4) 1 _ bkids ⟨_, _, rfl⟩).mono ?_
    rw [HB1.out]
    rintro e w9 ⟨rfl, x9⟩
    clear y0 y1 y2 y3 y4 y5 y6 y7 y8 y9 ya yb
    replace hw := hw.trans (x9.mono hw.size)
    replace RE := RE.below x9 RE.lt
    replace RR := RR.below x9 RR.lt
    replace RA := RA.below x9 RA.lt
    replace RB := RB.below x9 RB.lt
    cases vB1
    case false =>
     obtain ⟨y0, y1, y2, y3, y4, y5, y6, y7, y8, y9, ya, yb⟩ := cells12 RE RA RB
     go_wp2_with fail
     refine (spec_l6Is 1 an aname (.slice A3 akids.length p3) 0 _ akids ⟨_, _, rfl⟩).mono ?_
     rw [HA0.out]
     rintro e w10 ⟨rfl, x10⟩
     clear y0 y1 y2 y3 y4 y5 y6 y7 y8 y9 ya yb
     replace hw := hw.trans (x10.mono hw.size)
     replace RE := RE.below x10 RE.lt
     replace RR := RR.below x10 RR.lt
     replace RA := RA.below x10 RA.lt
     replace RB := RB.below x10 RB.lt
     cases vA0
     case false =>
      obtain ⟨y0, y1, y2, y3, y4, y5, y6, y7, y8, y9, ya, yb⟩ := cells12 RE RA RB
      go_wp2_with fail
      refine (spec_l6Is 1 an aname (.slice A3 akids.length p3) 1 _ akids ⟨_, _, rfl⟩).mono ?_
      rw [HA1.out]
      rintro e w11 ⟨rfl, x11⟩
      clear y0 y1 y2 y3 y4 y5 y6 y7 y8 y9 ya yb
      replace hw := hw.trans (x11.mono hw.size)
      replace RE := RE.below x11 RE.lt
      replace RR := RR.below x11 RR.lt
      replace RA := RA.below x11 RA.lt
      replace RB := RB.below x11 RB.lt
      cases vA1
      case false =>
       obtain ⟨s0, s1, s2, s3, f0, f1, f2, f3⟩ := cells8 RR
       obtain ⟨y0, y1, y2, y3, y4, y5, y6, y7, y8, y9, ya, yb⟩ := cells12 RE RA RB
       have F := leaf_fin (f := T) hw hB (Nat.le_succ _) RR he (by rw [← HTT.out]; unfold foldTwo; simp [HN.out, HB0.out, HB1.out, HA0.out, HA1.out])
       go_wp2_with fail
       refine bodyPost_ret (by simp [results, Tryd.results48, go_sem, s0, s1, s2, s3]) rfl F.out
      case true =>
       obtain ⟨s0, s1, s2, s3, f0, f1, f2, f3⟩ := cells8 RR
       obtain ⟨y0, y1, y2, y3, y4, y5, y6, y7, y8, y9, ya, yb⟩ := cells12 RE RA RB
       have F := leaf_fin (f := T) hw hB (Nat.le_succ _) RR he (by rw [← HTT.out]; unfold foldTwo; simp [HN.out, HB0.out, HB1.out, HA0.out, HA1.out])
       go_wp2_with fail
       refine bodyPost_ret (by simp [results, Tryd.results48, go_sem, s0, s1, s2, s3]) rfl F.out
     case true =>
      obtain ⟨y0, y1, y2, y3, y4, y5, y6, y7, y8, y9, ya, yb⟩ := cells12 RE RA RB
      go_wp2_with fail
      refine (spec_l6Is 1 an aname (.slice A3 akids.length p3) 1 _ akids ⟨_, _, rfl⟩).mono ?_
      rw [HA1.out]
      rintro e w11 ⟨rfl, x11⟩
      clear y0 y1 y2 y3 y4 y5 y6 y7 y8 y9 ya yb
      replace hw := hw.trans (x11.mono hw.size)
      replace RE := RE.below x11 RE.lt
      replace RR := RR.below x11 RR.lt
      replace RA := RA.below x11 RA.lt
      replace RB := RB.below x11 RB.lt
      cases vA1
      case false =>
       obtain ⟨s0, s1, s2, s3, f0, f1, f2, f3⟩ := cells8 RR
       obtain ⟨y0, y1, y2, y3, y4, y5, y6, y7, y8, y9, ya, yb⟩ := cells12 RE RA RB
       have F := leaf_fin (f := T) hw hB (Nat.le_succ _) RR he (by rw [← HTT.out]; unfold foldTwo; simp [HN.out, HB0.out, HB1.out, HA0.out, HA1.out])
       go_wp2_with fail
       refine bodyPost_ret (by simp [results, Tryd.results48, go_sem, s0, s1, s2, s3]) rfl F.out
      case true =>
       obtain ⟨s0, s1, s2, s3, f0, f1, f2, f3⟩ := cells8 RR
       obtain ⟨y0, y1, y2, y3, y4, y5, y6, y7, y8, y9, ya, yb⟩ := cells12 RE RA RB
       have F := leaf_fin (f := T) hw hB (Nat.le_succ _) RR he (by rw [← HTT.out]; unfold foldTwo; simp [HN.out, HB0.out, HB1.out, HA0.out, HA1.out])
       go_wp2_with fail
       refine bodyPost_ret (by simp [results, Tryd.results48, go_sem, s0, s1, s2, s3]) rfl F.out
    case true =>
     obtain ⟨s0, s1, s2, s3, f0, f1, f2, f3⟩ := cells8 RR
     obtain ⟨y0, y1, y2, y3, y4, y5, y6, y7, y8, y9, ya, yb⟩ := cells12 RE RA RB
     have F := leaf_fin (f := T) hw hB (Nat.le_succ _) RR ha (by rw [← HTT.out]; unfold foldTwo; simp [HN.out, HB0.out, HB1.out])
     go_wp2_with fail
     refine bodyPost_ret (by simp [results, Tryd.results48, go_sem, s0, s1, s2, s3]) rfl F.out
  subst qa qb
  obtain ⟨an0, an1⟩ := ra rfl
  obtain ⟨bn0, bn1⟩ := rb rfl
  clear ra rb
  by_cases hbz : bn = 0
  case pos =>
    have hv : (arV 6 an bn).2 = false := by simp [arV, hbz]
    have HN : Hid (numB 6 (Ex.mk 1 an aname akids) (Ex.mk 1 bn bname bkids) = false) := by show _ = _; simp [numB, Ex.op, Ex.n, hv]
    have HV := Lib.hid (show endC (arV 6 an bn).2 = 1 by rw [hv]; rfl)
    obtain rfl : vB0 = true := by rw [← HB0.out, hbz]; simp [isN, Ex.op, Ex.n]
    obtain rfl : vB1 = false := by rw [← HB1.out, hbz]; simp [isN, Ex.op, Ex.n]
    clear hv hbz
    obtain ⟨y0, y1, y2, y3, y4, y5, y6, y7, y8, y9, ya, yb⟩ := cells12 RE RA RB
    go_wp2_with fail
    refine (spec_l5Eval_two (d + 1) 6 n name [(Ex.mk 1 an aname akids), (Ex.mk 1 bn bname bkids)] _ p _ lo B an bn aname bname akids bkids (Nat.le_trans hB hw.size) (h3s.below hw hB) rfl an0 an1 bn0 bn1 (by omega) (by omega)).mono ?_
    rw [HV.out]
    rintro e w8 ⟨rfl, x8⟩
    clear y0 y1 y2 y3 y4 y5 y6 y7 y8 y9 ya yb
    replace hw := hw.trans (x8.mono hw.size)
    replace RE := RE.below x8 RE.lt
    replace RR := RR.below x8 RR.lt
    replace RA := RA.below x8 RA.lt
    replace RB := RB.below x8 RB.lt
    obtain ⟨y0, y1, y2, y3, y4, y5, y6, y7, y8, y9, ya, yb⟩ := cells12 RE RA RB
    go_wp2_with fail
    refine (spec_l6Is 1 bn bname (.slice A4 bkids.length p4) 0 _ bkids ⟨_, _, rfl⟩).mono ?_
    rw [HB0.out]
    rintro e w9 ⟨rfl, x9⟩
    clear y0 y1 y2 y3 y4 y5 y6 y7 y8 y9 ya yb
    replace hw := hw.trans (x9.mono hw.size)
    replace RE := RE.below x9 RE.lt
    replace RR := RR.below x9 RR.lt
    replace RA := RA.below x9 RA.lt
    replace RB := RB.below x9 RB.lt
    obtain ⟨y0, y1, y2, y3, y4, y5, y6, y7, y8, y9, ya, yb⟩ := cells12 RE RA RB
    go_wp2_with fail
    refine (spec_l6Is 1 bn bname (.slice A4 bkids.length p4) 1 _ bkids ⟨_, _, rfl⟩).mono ?_
    rw [HB1.out]
    rintro e w10 ⟨rfl, x10⟩
    clear y0 y1 y2 y3 y4 y5 y6 y7 y8 y9 ya yb
    replace hw := hw.trans (x10.mono hw.size)
    replace RE := RE.below x10 RE.lt
    replace RR := RR.below x10 RR.lt
    replace RA := RA.below x10 RA.lt
    replace RB := RB.below x10 RB.lt
    obtain ⟨y0, y1, y2, y3, y4, y5, y6, y7, y8, y9, ya, yb⟩ := cells12 RE RA RB
    go_wp2_with fail
    refine (spec_l6Is 1 an aname (.slice A3 akids.length p3) 0 _ akids ⟨_, _, rfl⟩).mono ?_
    rw [HA0.out]
    rintro e w11 ⟨rfl, x11⟩
    clear y0 y1 y2 y3 y4 y5 y6 y7 y8 y9 ya yb
    replace hw := hw.trans (x11.mono hw.size)
    replace RE := RE.below x11 RE.lt
    replace RR := RR.below x11 RR.lt
    replace RA := RA.below x11 RA.lt
    replace RB := RB.below x11 RB.lt
    cases vA0
    case false =>
     obtain ⟨y0, y1, y2, y3, y4, y5, y6, y7, y8, y9, ya, yb⟩ := cells12 RE RA RB
     go_wp2_with fail
     refine (spec_l6Is 1 an aname (.slice A3 akids.length p3) 1 _ akids ⟨_, _, rfl⟩).mono ?_
     rw [HA1.out]
     rintro e w12 ⟨rfl, x12⟩
     clear y0 y1 y2 y3 y4 y5 y6 y7 y8 y9 ya yb
     replace hw := hw.trans (x12.mono hw.size)
     replace RE := RE.below x12 RE.lt
     replace RR := RR.below x12 RR.lt
     replace RA := RA.below x12 RA.lt
     replace RB := RB.below x12 RB.lt
     cases vA1
     case false =>
      obtain ⟨s0, s1, s2, s3, f0, f1, f2, f3⟩ := cells8 RR
      obtain ⟨y0, y1, y2, y3, y4, y5, y6, y7, y8, y9, ya, yb⟩ := cells12 RE RA RB
      have F := leaf_fin (f := T) hw hB (Nat.le_succ _) RR he (by rw [← HTT.out]; unfold foldTwo; simp [HN.out, HB0.out, HB1.out, HA0.out, HA1.out])
      go_wp2_with fail
      refine bodyPost_ret (by simp [results, Tryd.results48, go_sem, s0, s1, s2, s3]) rfl F.out
     case true =>
      obtain ⟨s0, s1, s2, s3, f0, f1, f2, f3⟩ := cells8 RR
      obtain ⟨y0, y1, y2, y3, y4, y5, y6, y7, y8, y9, ya, yb⟩ := cells12 RE RA RB
      have F := leaf_fin (f := T) hw hB (Nat.le_succ _) RR he (by rw [← HTT.out]; unfold foldTwo; simp [HN.out, HB0.out, HB1.out, HA0.out, HA1.out])
      go_wp2_with fail
      refine bodyPost_ret (by simp [results, Tryd.results48, go_sem, s0, s1, s2, s3]) rfl F.out
    case true =>
     obtain ⟨y0, y1, y2, y3, y4, y5, y6, y7, y8, y9, ya, yb⟩ := cells12 RE RA RB
     go_wp2_with fail
     refine (spec_l6Is 1 an aname (.slice A3 akids.length p3) 1 _ akids ⟨_, _, rfl⟩).mono ?_
     rw [HA1.out]
     rintro e w12 ⟨rfl, x12⟩
     clear y0 y1 y2 y3 y4 y5 y6 y7 y8 y9 ya yb
     replace hw := hw.trans (x12.mono hw.size)
     replace RE := RE.below x12 RE.lt
     replace RR := RR.below x12 RR.lt
     replace RA := RA.below x12 RA.lt
     replace RB := RB.below x12 RB.lt
     cases vA1
     case false =>
      obtain ⟨s0, s1, s2, s3, f0, f1, f2, f3⟩ := cells8 RR
      obtain ⟨y0, y1, y2, y3, y4, y5, y6, y7, y8, y9, ya, yb⟩ := cells12 RE RA RB
      have F := leaf_fin (f := T) hw hB (Nat.le_succ _) RR he (by rw [← HTT.out]; unfold foldTwo; simp [HN.out, HB0.out, HB1.out, HA0.out, HA1.out])
      go_wp2_with fail
      refine bodyPost_ret (by simp [results, Tryd.results48, go_sem, s0, s1, s2, s3]) rfl F.out
     case true =>
      obtain ⟨s0, s1, s2, s3, f0, f1, f2, f3⟩ := cells8 RR
      obtain ⟨y0, y1, y2, y3, y4, y5, y6, y7, y8, y9, ya, yb⟩ := cells12 RE RA RB
      have F := leaf_fin (f := T) hw hB (Nat.le_succ _) RR he (by rw [← HTT.out]; unfold foldTwo; simp [HN.out, HB0.out, HB1.out, HA0.out, HA1.out])
      go_wp2_with fail
      refine bodyPost_ret (by simp [results, Tryd.results48, go_sem, s0, s1, s2, s3]) rfl F.out
  have hv : (arV 6 an bn).2 = true := by simp [arV, hbz]
  clear hbz
  have HN : Hid (numB 6 (Ex.mk 1 an aname akids) (Ex.mk 1 bn bname bkids) = true) := by show _ = _; simp [numB, Ex.op, Ex.n, hv]
  have HV := Lib.hid (show endC (arV 6 an bn).2 = 0 by rw [hv]; rfl)
  have hI : I64 (arV 6 an bn).1 := by
    have := arV_range (op := 6) an0 an1 bn0 bn1
    exact ⟨by omega, by omega⟩
  clear hv
  obtain ⟨y0, y1, y2, y3, y4, y5, y6, y7, y8, y9, ya, yb⟩ := cells12 RE RA RB
  go_wp2_with fail
  refine (spec_l5Eval_two (d + 1) 6 n name [(Ex.mk 1 an aname akids), (Ex.mk 1 bn bname bkids)] _ p _ lo B an bn aname bname akids bkids (Nat.le_trans hB hw.size) (h3s.below hw hB) rfl an0 an1 bn0 bn1 (by omega) (by omega)).mono ?_
  rw [HV.out]
  rintro e w8 ⟨rfl, x8⟩
  clear y0 y1 y2 y3 y4 y5 y6 y7 y8 y9 ya yb
  replace hw := hw.trans (x8.mono hw.size)
  replace RE := RE.below x8 RE.lt
  replace RR := RR.below x8 RR.lt
  replace RA := RA.below x8 RA.lt
  replace RB := RB.below x8 RB.lt
  obtain ⟨y0, y1, y2, y3, y4, y5, y6, y7, y8, y9, ya, yb⟩ := cells12 RE RA RB
  go_wp2_with fail
  refine (spec_num (d + 1) ((arV 6 an bn).1) _ hI).mono ?_
  rintro e w9 ⟨An, cn, rfl, hnr, x9⟩
  clear y0 y1 y2 y3 y4 y5 y6 y7 y8 y9 ya yb
  replace hw := hw.trans (x9.mono hw.size)
  replace RE := RE.below x9 RE.lt
  replace RR := RR.below x9 RR.lt
  replace RA := RA.below x9 RA.lt
  replace RB := RB.below x9 RB.lt
  obtain ⟨s0, s1, s2, s3, f0, f1, f2, f3⟩ := cells8 RR
  obtain ⟨y0, y1, y2, y3, y4, y5, y6, y7, y8, y9, ya, yb⟩ := cells12 RE RA RB
  have F := leaf_fin (f := T) hw hB (Nat.le_succ _) RR (hnr w lo B) (show T = exN1 ((arV 6 an bn).1) by rw [← HTT.out]; unfold foldTwo; rw [if_pos HN.out]; rfl)
  go_wp2_with fail
  refine bodyPost_ret (by simp [results, Tryd.results48, go_sem, s0, s1, s2, s3]) rfl F.out
end Go.Proofs.YthfinoapfbhgcaaDoor

