/-
  Several texts in one: FoldS10, FoldS11, FoldS7, FoldS8, FoldS9.
-/
import Derived.Test.YthfinoapfbhgcaaDoorFoldZ
import Derived.Test.YthfinoapfbhgcaaDoorFoldA
namespace Go.Proofs.YthfinoapfbhgcaaDoor
open Go.RowKit Go.ChangeShapes Go.WideShapes Go.Deep
set_option linter.unusedVariables false
set_option linter.unusedSimpArgs false
set_option maxRecDepth 100000 in
set_option maxHeartbeats 16000000 in
theorem spec_l6Part_7 (d : Nat) (n : Int) (name : ByteArray) (aop an : Int) (aname : ByteArray) (akids : List Ex) (bop bn : Int) (bname : ByteArray) (bkids : List Ex) (A : Option Addr) (p : Nat) (w : World) (lo B : Nat) (hB : B ≤ w.heap.size) (hn : I64 n) (hnm : name.size ≤ maxLen)
    (h3 : ∀ m, SlT m (exT m (d + 1)) w lo B [.mk aop an aname akids, .mk bop bn bname bkids] (.slice A 2 p)) (ra : aop = 1 → 0 ≤ an ∧ an ≤ 255) (rb : bop = 1 → 0 ≤ bn ∧ bn ≤ 255) (fa : formB 6 (.mk aop an aname akids) = true) (fb : formB 6 (.mk bop bn bname bkids) = true) :
    Calls Tryd.prog 48 #[.agg #[.int .i64 7, .int .i64 n, .string name, .slice A 2 p]] w (FoldRP (d + 1) (foldTwo 7 (Ex.mk aop an aname akids) (Ex.mk bop bn bname bkids) (Ex.mk 7 n name [(Ex.mk aop an aname akids), (Ex.mk bop bn bname bkids)])) lo B w) := by
  obtain ⟨blk, op1, n1, nm1, k1, A3, p3, rfl, hlb, hbB, HL1, oa, na, sa, ha', c0, c1, c2, c3⟩ := exT_get d h3 (show 0 < 2 by omega)
  have e1 := HL1.out
  injection e1 with e1 e2 e3 e4
  subst e1 e2 e3 e4
  obtain ⟨blk', op2, n2, nm2, k2, A4, p4, hA, _, _, HL2, ob, nb, sb, hb', c4, c5, c6, c7⟩ := exT_get d h3 (show 1 < 2 by omega)
  injection hA with hA
  injection hA with hA
  subst hA
  have e1 := HL2.out
  injection e1 with e1 e2 e3 e4
  subst e1 e2 e3 e4
  have he : ∀ m, (exT m (d + 1 + 1)).rep w lo B (Ex.mk 7 n name [(Ex.mk aop an aname akids), (Ex.mk bop bn bname bkids)]) [.int .i64 7, .int .i64 n, .string name, .slice (some ⟨blk, 0, none⟩) 2 p] := fun m => exT_mk m (d + 1) 7 n name _ _ ⟨by omega, by omega⟩ hn hnm (h3 m)
  have ha : ∀ m, (exT m (d + 1 + 1)).rep w lo B (Ex.mk aop an aname akids) [.int .i64 aop, .int .i64 an, .string aname, .slice A3 akids.length p3] := fun m => exT_le m (Nat.le_succ _) (ha' m)
  have hb : ∀ m, (exT m (d + 1 + 1)).rep w lo B (Ex.mk bop bn bname bkids) [.int .i64 bop, .int .i64 bn, .string bname, .slice A4 bkids.length p4] := fun m => exT_le m (Nat.le_succ _) (hb' m)
  have ska : Sl false (exS false d) w lo B akids (.slice A3 akids.length p3) := (exT_kids d (ha' false)).exS
  have skb : Sl false (exS false d) w lo B bkids (.slice A4 bkids.length p4) := (exT_kids d (hb' false)).exS
  have h3s : Sl false (exS false (d + 1)) w lo B [(Ex.mk aop an aname akids), (Ex.mk bop bn bname bkids)] (.slice (some ⟨blk, 0, none⟩) 2 p) := (h3 false).exS
  clear ha' hb' h3 HL1 HL2
  obtain ⟨T, hTT⟩ : ∃ T, foldTwo 7 (Ex.mk aop an aname akids) (Ex.mk bop bn bname bkids) (Ex.mk 7 n name [(Ex.mk aop an aname akids), (Ex.mk bop bn bname bkids)]) = T := ⟨_, rfl⟩
  rw [hTT]
  have HTT := Lib.hid hTT
  clear hTT
  have hblk : blk < w.heap.size := by omega
  obtain ⟨vA0, hvA0⟩ : ∃ v, isN (Ex.mk aop an aname akids) 0 = v := ⟨_, rfl⟩
  obtain ⟨vA1, hvA1⟩ : ∃ v, isN (Ex.mk aop an aname akids) 1 = v := ⟨_, rfl⟩
  obtain ⟨vB0, hvB0⟩ : ∃ v, isN (Ex.mk bop bn bname bkids) 0 = v := ⟨_, rfl⟩
  obtain ⟨vB1, hvB1⟩ : ∃ v, isN (Ex.mk bop bn bname bkids) 1 = v := ⟨_, rfl⟩
  obtain ⟨vSA, hvSA⟩ : ∃ v, safeE 6 (Ex.mk aop an aname akids) = v := ⟨_, rfl⟩
  obtain ⟨vSB, hvSB⟩ : ∃ v, safeE 6 (Ex.mk bop bn bname bkids) = v := ⟨_, rfl⟩
  have HA0 := Lib.hid hvA0
  have HA1 := Lib.hid hvA1
  have HB0 := Lib.hid hvB0
  have HB1 := Lib.hid hvB1
  have HSA := Lib.hid hvSA
  have HSB := Lib.hid hvSB
  clear hvA0 hvA1 hvB0 hvB1 hvSA hvSB

  have hw : Below w.heap.size w ((w.alloc (.cells #[.int .i64 7, .int .i64 n, .string name, .slice (some ⟨blk, 0, none⟩) 2 p] 25)).alloc (.cells #[.int .i64 0, .int .i64 0, .string ⟨#[]⟩, .slice none 0 0] 25)) := ((Below.refl _ _).alloc (Nat.le_refl _) _).alloc (by simp) _
  have RE : Row _ w.heap.size 25 #[.int .i64 7, .int .i64 n, .string name, .slice (some ⟨blk, 0, none⟩) 2 p] := (Row.new w _ _).alloc (.cells #[.int .i64 0, .int .i64 0, .string ⟨#[]⟩, .slice none 0 0] 25)
  have RR : Row ((w.alloc (.cells #[.int .i64 7, .int .i64 n, .string name, .slice (some ⟨blk, 0, none⟩) 2 p] 25)).alloc (.cells #[.int .i64 0, .int .i64 0, .string ⟨#[]⟩, .slice none 0 0] 25)) (w.heap.size + 1) 25 #[.int .i64 0, .int .i64 0, .string ⟨#[]⟩, .slice none 0 0] := by simpa using Row.new (w.alloc (.cells #[.int .i64 7, .int .i64 n, .string name, .slice (some ⟨blk, 0, none⟩) 2 p] 25)) 25 #[.int .i64 0, .int .i64 0, .string ⟨#[]⟩, .slice none 0 0]
  go_enter Tryd.func48, Tryd.ntmps48
  go_wp2_with fail
  refine (spec_l1In 7 3 10 _).mono ?_
  rw [show inB 7 3 10 = true from by decide]
  rintro e w5 ⟨rfl, hw5⟩
  rw [hw5] at hw RE RR
  clear hw5
  obtain ⟨k0, k1, k2, k3, k4, k5, k6, k7⟩ := kids8 hw hblk c0 c1 c2 c3 c4 c5 c6 c7
  obtain ⟨z0, z1, z2, z3⟩ := cells4 RE
  have y_6 := (Below.refl _ w5).alloc (Nat.le_refl _) (.cells #[.int .i64 aop, .int .i64 an, .string aname, .slice A3 akids.length p3] 25)
  replace hw := hw.trans (y_6.mono hw.size)
  replace RE := RE.below y_6 RE.lt
  replace RR := RR.below y_6 RR.lt
  have RA : Row _ _ _ #[.int .i64 aop, .int .i64 an, .string aname, .slice A3 akids.length p3] := Row.new w5 25 _
  obtain ⟨l0, l1, l2, l3, l4, l5, l6, l7⟩ := kids8 hw hblk c0 c1 c2 c3 c4 c5 c6 c7
  obtain ⟨t0, t1, t2, t3⟩ := cells4 RE
  have y_7 := (Below.refl _ (w5.alloc (.cells #[.int .i64 aop, .int .i64 an, .string aname, .slice A3 akids.length p3] 25))).alloc (Nat.le_refl _) (.cells #[.int .i64 bop, .int .i64 bn, .string bname, .slice A4 bkids.length p4] 25)
  replace hw := hw.trans (y_7.mono hw.size)
  replace RE := RE.below y_7 RE.lt
  replace RR := RR.below y_7 RR.lt
  replace RA := RA.below y_7 RA.lt
  have RB : Row ((w5.alloc (.cells #[.int .i64 aop, .int .i64 an, .string aname, .slice A3 akids.length p3] 25)).alloc (.cells #[.int .i64 bop, .int .i64 bn, .string bname, .slice A4 bkids.length p4] 25)) (w5.heap.size + 1) 25 #[.int .i64 bop, .int .i64 bn, .string bname, .slice A4 bkids.length p4] := by simpa using Row.new (w5.alloc (.cells #[.int .i64 aop, .int .i64 an, .string aname, .slice A3 akids.length p3] 25)) 25 #[.int .i64 bop, .int .i64 bn, .string bname, .slice A4 bkids.length p4]
  clear c0 c1 c2 c3 c4 c5 c6 c7
  by_cases qa : aop = 1
  case neg =>
   have qa' : (aop == 1) = false := by simpa using qa
   have HN : Hid (numB 7 (Ex.mk aop an aname akids) (Ex.mk bop bn bname bkids) = false) := by show _ = _; simp [numB, Ex.op, qa]
   clear qa
   obtain ⟨y0, y1, y2, y3, y4, y5, y6, y7, y8, y9, ya, yb⟩ := cells12 RE RA RB
   go_wp2_with fail
   refine (spec_l6Is bop bn bname (.slice A4 bkids.length p4) 0 _ bkids ⟨_, _, rfl⟩).mono ?_
   rw [HB0.out]
   rintro e w8 ⟨rfl, x8⟩
   clear y0 y1 y2 y3 y4 y5 y6 y7 y8 y9 ya yb
   replace hw := hw.trans (x8.mono hw.size)
   replace RE := RE.below x8 RE.lt
   replace RR := RR.below x8 RR.lt
   replace RA := RA.below x8 RA.lt
   replace RB := RB.below x8 RB.lt
   cases vB0
   case false =>
    obtain ⟨y0, y1, y2, y3, y4, y5, y6, y7, y8, y9, ya, yb⟩ := cells12 RE RA RB
    go_wp2_with fail
    refine (spec_l6Is bop bn bname (.slice A4 bkids.length p4) 1 _ bkids ⟨_, _, rfl⟩).mono ?_
    rw [HB1.out]
    rintro e w9 ⟨rfl, x9⟩
    clear y0 y1 y2 y3 y4 y5 y6 y7 y8 y9 ya yb
    replace hw := hw.trans (x9.mono hw.size)
    replace RE := RE.below x9 RE.lt
    replace RR := RR.below x9 RR.lt
    replace RA := RA.below x9 RA.lt
    replace RB := RB.below x9 RB.lt
    cases vB1
    case false =>
     obtain ⟨y0, y1, y2, y3, y4, y5, y6, y7, y8, y9, ya, yb⟩ := cells12 RE RA RB
     go_wp2_with fail
     refine (spec_l6Is aop an aname (.slice A3 akids.length p3) 0 _ akids ⟨_, _, rfl⟩).mono ?_
     rw [HA0.out]
     rintro e w10 ⟨rfl, x10⟩
     clear y0 y1 y2 y3 y4 y5 y6 y7 y8 y9 ya yb
     replace hw := hw.trans (x10.mono hw.size)
     replace RE := RE.below x10 RE.lt
     replace RR := RR.below x10 RR.lt
     replace RA := RA.below x10 RA.lt
     replace RB := RB.below x10 RB.lt
     cases vA0
     case false =>
      obtain ⟨y0, y1, y2, y3, y4, y5, y6, y7, y8, y9, ya, yb⟩ := cells12 RE RA RB
      go_wp2_with fail
      refine (spec_l6Is aop an aname (.slice A3 akids.length p3) 1 _ akids ⟨_, _, rfl⟩).mono ?_
      rw [HA1.out]
      rintro e w11 ⟨rfl, x11⟩
      clear y0 y1 y2 y3 y4 y5 y6 y7 y8 y9 ya yb
      replace hw := hw.trans (x11.mono hw.size)
      replace RE := RE.below x11 RE.lt
      replace RR := RR.below x11 RR.lt
      replace RA := RA.below x11 RA.lt
      replace RB := RB.below x11 RB.lt
      cases vA1
      case false =>
       obtain ⟨s0, s1, s2, s3, f0, f1, f2, f3⟩ := cells8 RR
       obtain ⟨y0, y1, y2, y3, y4, y5, y6, y7, y8, y9, ya, yb⟩ := cells12 RE RA RB
       have F := leaf_fin (f := T) hw hB (Nat.le_succ _) RR he (by rw [← HTT.out]; unfold foldTwo; simp [HN.out, HB0.out, HB1.out, HA0.out, HA1.out])
       go_wp2_with fail
       refine bodyPost_ret (by simp [results, Tryd.results48, go_sem, s0, s1, s2, s3]) rfl F.out
      case true =>
       obtain ⟨s0, s1, s2, s3, f0, f1, f2, f3⟩ := cells8 RR
       obtain ⟨y0, y1, y2, y3, y4, y5, y6, y7, y8, y9, ya, yb⟩ := cells12 RE RA RB
       have F := leaf_fin (f := T) hw hB (Nat.le_succ _) RR he (by rw [← HTT.out]; unfold foldTwo; simp [HN.out, HB0.out, HB1.out, HA0.out, HA1.out])
       go_wp2_with fail
       refine bodyPost_ret (by simp [results, Tryd.results48, go_sem, s0, s1, s2, s3]) rfl F.out
     case true =>
      obtain ⟨y0, y1, y2, y3, y4, y5, y6, y7, y8, y9, ya, yb⟩ := cells12 RE RA RB
      go_wp2_with fail
      refine (spec_l6Is aop an aname (.slice A3 akids.length p3) 1 _ akids ⟨_, _, rfl⟩).mono ?_
      rw [HA1.out]
      rintro e w11 ⟨rfl, x11⟩
      clear y0 y1 y2 y3 y4 y5 y6 y7 y8 y9 ya yb
      replace hw := hw.trans (x11.mono hw.size)
      replace RE := RE.below x11 RE.lt
      replace RR := RR.below x11 RR.lt
      replace RA := RA.below x11 RA.lt
      replace RB := RB.below x11 RB.lt
      cases vA1
      case false =>
       obtain ⟨s0, s1, s2, s3, f0, f1, f2, f3⟩ := cells8 RR
       obtain ⟨y0, y1, y2, y3, y4, y5, y6, y7, y8, y9, ya, yb⟩ := cells12 RE RA RB
       have F := leaf_fin (f := T) hw hB (Nat.le_succ _) RR he (by rw [← HTT.out]; unfold foldTwo; simp [HN.out, HB0.out, HB1.out, HA0.out, HA1.out])
       go_wp2_with fail
       refine bodyPost_ret (by simp [results, Tryd.results48, go_sem, s0, s1, s2, s3]) rfl F.out
      case true =>
       obtain ⟨s0, s1, s2, s3, f0, f1, f2, f3⟩ := cells8 RR
       obtain ⟨y0, y1, y2, y3, y4, y5, y6, y7, y8, y9, ya, yb⟩ := cells12 RE RA RB
       have F := leaf_fin (f := T) hw hB (Nat.le_succ _) RR he (by rw [← HTT.out]; unfold foldTwo; simp [HN.out, HB0.out, HB1.out, HA0.out, HA1.out])
       go_wp2_with fail
       refine bodyPost_ret (by simp [results, Tryd.results48, go_sem, s0, s1, s2, s3]) rfl F.out
    case true =>
     obtain ⟨y0, y1, y2, y3, y4, y5, y6, y7, y8, y9, ya, yb⟩ := cells12 RE RA RB
     go_wp2_with fail
     refine (spec_l6Is aop an aname (.slice A3 akids.length p3) 0 _ akids ⟨_, _, rfl⟩).mono ?_
     rw [HA0.out]
     rintro e w10 ⟨rfl, x10⟩
     clear y0 y1 y2 y3 y4 y5 y6 y7 y8 y9 ya yb
     replace hw := hw.trans (x10.mono hw.size)
     replace RE := RE.below x10 RE.lt
     replace RR := RR.below x10 RR.lt
     replace RA := RA.below x10 RA.lt
     replace RB := RB.below x10 RB.lt
     cases vA0
     case false =>
      obtain ⟨y0, y1, y2, y3, y4, y5, y6, y7, y8, y9, ya, yb⟩ := cells12 RE RA RB
      go_wp2_with fail
      refine (spec_l6Is aop an aname (.slice A3 akids.length p3) 1 _ akids ⟨_, _, rfl⟩).mono ?_
      rw [HA1.out]
      rintro e w11 ⟨rfl, x11⟩
      clear y0 y1 y2 y3 y4 y5 y6 y7 y8 y9 ya yb
      replace hw := hw.trans (x11.mono hw.size)
      replace RE := RE.below x11 RE.lt
      replace RR := RR.below x11 RR.lt
      replace RA := RA.below x11 RA.lt
      replace RB := RB.below x11 RB.lt
      cases vA1
      case false =>
       obtain ⟨s0, s1, s2, s3, f0, f1, f2, f3⟩ := cells8 RR
       obtain ⟨y0, y1, y2, y3, y4, y5, y6, y7, y8, y9, ya, yb⟩ := cells12 RE RA RB
       have F := leaf_fin (f := T) hw hB (Nat.le_succ _) RR he (by rw [← HTT.out]; unfold foldTwo; simp [HN.out, HB0.out, HB1.out, HA0.out, HA1.out])
       go_wp2_with fail
       refine bodyPost_ret (by simp [results, Tryd.results48, go_sem, s0, s1, s2, s3]) rfl F.out
      case true =>
       obtain ⟨s0, s1, s2, s3, f0, f1, f2, f3⟩ := cells8 RR
       obtain ⟨y0, y1, y2, y3, y4, y5, y6, y7, y8, y9, ya, yb⟩ := cells12 RE RA RB
       have F := leaf_fin (f := T) hw hB (Nat.le_succ _) RR he (by rw [← HTT.out]; unfold foldTwo; simp [HN.out, HB0.out, HB1.out, HA0.out, HA1.out])
       go_wp2_with fail
       refine bodyPost_ret (by simp [results, Tryd.results48, go_sem, s0, s1, s2, s3]) rfl F.out
     case true =>
      obtain ⟨y0, y1, y2, y3, y4, y5, y6, y7, y8, y9, ya, yb⟩ := cells12 RE RA RB
      go_wp2_with fail
      refine (spec_l6Is aop an aname (.slice A3 akids.length p3) 1 _ akids ⟨_, _, rfl⟩).mono ?_
      rw [HA1.out]
      rintro e w11 ⟨rfl, x11⟩
      clear y0 y1 y2 y3 y4 y5 y6 y7 y8 y9 ya yb
      replace hw := hw.trans (x11.mono hw.size)
      replace RE := RE.below x11 RE.lt
      replace RR := RR.below x11 RR.lt
      replace RA := RA.below x11 RA.lt
      replace RB := RB.below x11 RB.lt
      cases vA1
      case false =>
       obtain ⟨s0, s1, s2, s3, f0, f1, f2, f3⟩ := cells8 RR
       obtain ⟨y0, y1, y2, y3, y4, y5, y6, y7, y8, y9, ya, yb⟩ := cells12 RE RA RB
       have F := leaf_fin (f := T) hw hB (Nat.le_succ _) RR he (by rw [← HTT.out]; unfold foldTwo; simp [HN.out, HB0.out, HB1.out, HA0.out, HA1.out])
       go_wp2_with fail
       refine bodyPost_ret (by simp [results, Tryd.results48, go_sem, s0, s1, s2, s3]) rfl F.out
      case true =>
       obtain ⟨s0, s1, s2, s3, f0, f1, f2, f3⟩ := cells8 RR
       obtain ⟨y0, y1, y2, y3, y4, y5, y6, y7, y8, y9, ya, yb⟩ := cells12 RE RA RB
       have F := leaf_fin (f := T) hw hB (Nat.le_succ _) RR he (by rw [← HTT.out]; unfold foldTwo; simp [HN.out, HB0.out, HB1.out, HA0.out, HA1.out])
       go_wp2_with fail
       refine bodyPost_ret (by simp [results, Tryd.results48, go_sem, s0, s1, s2, s3]) rfl F.out
   case true =>
    obtain ⟨y0, y1, y2, y3, y4, y5, y6, y7, y8, y9, ya, yb⟩ := cells12 RE RA RB
    go_wp2_with fail
    refine (spec_l6Is bop bn bname (.slice A4 bkids.length p4) 1 _ bkids ⟨_, _, rfl⟩).mono ?_
    rw [HB1.out]
    rintro e w9 ⟨rfl, x9⟩
    clear y0 y1 y2 y3 y4 y5 y6 y7 y8 y9 ya yb
    replace hw := hw.trans (x9.mono hw.size)
    replace RE := RE.below x9 RE.lt
    replace RR := RR.below x9 RR.lt
    replace RA := RA.below x9 RA.lt
    replace RB := RB.below x9 RB.lt
    cases vB1
    case false =>
     obtain ⟨y0, y1, y2, y3, y4, y5, y6, y7, y8, y9, ya, yb⟩ := cells12 RE RA RB
     go_wp2_with fail
     refine (spec_l6Is aop an aname (.slice A3 akids.length p3) 0 _ akids ⟨_, _, rfl⟩).mono ?_
     rw [HA0.out]
     rintro e w10 ⟨rfl, x10⟩
     clear y0 y1 y2 y3 y4 y5 y6 y7 y8 y9 ya yb
     replace hw := hw.trans (x10.mono hw.size)
     replace RE := RE.below x10 RE.lt
     replace RR := RR.below x10 RR.lt
     replace RA := RA.below x10 RA.lt
     replace RB := RB.below x10 RB.lt
     cases vA0
     case false =>
      obtain ⟨y0, y1, y2, y3, y4, y5, y6, y7, y8, y9, ya, yb⟩ := cells12 RE RA RB
      go_wp2_with fail
      refine (spec_l6Is aop an aname (.slice A3 akids.length p3) 1 _ akids ⟨_, _, rfl⟩).mono ?_
      rw [HA1.out]
      rintro e w11 ⟨rfl, x11⟩
      clear y0 y1 y2 y3 y4 y5 y6 y7 y8 y9 ya yb
      replace hw := hw.trans (x11.mono hw.size)
      replace RE := RE.below x11 RE.lt
      replace RR := RR.below x11 RR.lt
      replace RA := RA.below x11 RA.lt
      replace RB := RB.below x11 RB.lt
      cases vA1
      case false =>
       obtain ⟨s0, s1, s2, s3, f0, f1, f2, f3⟩ := cells8 RR
       obtain ⟨y0, y1, y2, y3, y4, y5, y6, y7, y8, y9, ya, yb⟩ := cells12 RE RA RB
       have F := leaf_fin (f := T) hw hB (Nat.le_succ _) RR he (by rw [← HTT.out]; unfold foldTwo; simp [HN.out, HB0.out, HB1.out, HA0.out, HA1.out])
       go_wp2_with fail
       refine bodyPost_ret (by simp [results, Tryd.results48, go_sem, s0, s1, s2, s3]) rfl F.out
      case true =>
       obtain ⟨s0, s1, s2, s3, f0, f1, f2, f3⟩ := cells8 RR
       obtain ⟨y0, y1, y2, y3, y4, y5, y6, y7, y8, y9, ya, yb⟩ := cells12 RE RA RB
       have F := leaf_fin (f := T) hw hB (Nat.le_succ _) RR he (by rw [← HTT.out]; unfold foldTwo; simp [HN.out, HB0.out, HB1.out, HA0.out, HA1.out])
       go_wp2_with fail
       refine bodyPost_ret (by simp [results, Tryd.results48, go_sem, s0, s1, s2, s3]) rfl F.out
     case true =>
      obtain ⟨y0, y1, y2, y3, y4, y5, y6, y7, y8, y9, ya, yb⟩ := cells12 RE RA RB
      go_wp2_with fail
      refine (spec_l6Is aop an aname (.slice A3 akids.length p3) 1 _ akids ⟨_, _, rfl⟩).mono ?_
      rw [HA1.out]
      rintro e w11 ⟨rfl, x11⟩
      clear y0 y1 y2 y3 y4 y5 y6 y7 y8 y9 ya yb
      replace hw := hw.trans (x11.mono hw.size)
      replace RE := RE.below x11 RE.lt
      replace RR := RR.below x11 RR.lt
      replace RA := RA.below x11 RA.lt
      replace RB := RB.below x11 RB.lt
      cases vA1
      case false =>
       obtain ⟨s0, s1, s2, s3, f0, f1, f2, f3⟩ := cells8 RR
       obtain ⟨y0, y1, y2, y3, y4, y5, y6, y7, y8, y9, ya, yb⟩ := cells12 RE RA RB
       have F := leaf_fin (f := T) hw hB (Nat.le_succ _) RR he (by rw [← HTT.out]; unfold foldTwo; simp [HN.out, HB0.out, HB1.out, HA0.out, HA1.out])
       go_wp2_with fail
       refine bodyPost_ret (by simp [results, Tryd.results48, go_sem, s0, s1, s2, s3]) rfl F.out
      case true =>
       obtain ⟨s0, s1, s2, s3, f0, f1, f2, f3⟩ := cells8 RR
       obtain ⟨y0, y1, y2, y3, y4, y5, y6, y7, y8, y9, ya, yb⟩ := cells12 RE RA RB
       have F := leaf_fin (f := T) hw hB (Nat.le_succ _) RR he (by rw [← HTT.out]; unfold foldTwo; simp [HN.out, HB0.out, HB1.out, HA0.out, HA1.out])
       go_wp2_with fail
       refine bodyPost_ret (by simp [results, Tryd.results48, go_sem, s0, s1, s2, s3]) rfl F.out
    case true =>
     obtain ⟨y0, y1, y2, y3, y4, y5, y6, y7, y8, y9, ya, yb⟩ := cells12 RE RA RB
     go_wp2_with fail
     refine (spec_l6Is aop an aname (.slice A3 akids.length p3) 0 _ akids ⟨_, _, rfl⟩).mono ?_
     rw [HA0.out]
     rintro e w10 ⟨rfl, x10⟩
     clear y0 y1 y2 y3 y4 y5 y6 y7 y8 y9 ya yb
     replace hw := hw.trans (x10.mono hw.size)
     replace RE := RE.below x10 RE.lt
     replace RR := RR.below x10 RR.lt
     replace RA := RA.below x10 RA.lt
     replace RB := RB.below x10 RB.lt
     cases vA0
     case false =>
      obtain ⟨y0, y1, y2, y3, y4, y5, y6, y7, y8, y9, ya, yb⟩ := cells12 RE RA RB
      go_wp2_with fail
      refine (spec_l6Is aop an aname (.slice A3 akids.length p3) 1 _ akids ⟨_, _, rfl⟩).mono ?_
      rw [HA1.out]
      rintro e w11 ⟨rfl, x11⟩
      clear y0 y1 y2 y3 y4 y5 y6 y7 y8 y9 ya yb
      replace hw := hw.trans (x11.mono hw.size)
      replace RE := RE.below x11 RE.lt
      replace RR := RR.below x11 RR.lt
      replace RA := RA.below x11 RA.lt
      replace RB := RB.below x11 RB.lt
      cases vA1
      case false =>
       obtain ⟨s0, s1, s2, s3, f0, f1, f2, f3⟩ := cells8 RR
       obtain ⟨y0, y1, y2, y3, y4, y5, y6, y7, y8, y9, ya, yb⟩ := cells12 RE RA RB
       have F := leaf_fin (f := T) hw hB (Nat.le_succ _) RR he (by rw [← HTT.out]; unfold foldTwo; simp [HN.out, HB0.out, HB1.out, HA0.out, HA1.out])
       go_wp2_with fail
       refine bodyPost_ret (by simp [results, Tryd.results48, go_sem, s0, s1, s2, s3]) rfl F.out
      case true =>
       obtain ⟨s0, s1, s2, s3, f0, f1, f2, f3⟩ := cells8 RR
       obtain ⟨y0, y1, y2, y3, y4, y5, y6, y7, y8, y9, ya, yb⟩ := cells12 RE RA RB
       have F := leaf_fin (f := T) hw hB (Nat.le_succ _) RR he (by rw [← HTT.out]; unfold foldTwo; simp [HN.out, HB0.out, HB1.out, HA0.out, HA1.out])
       go_wp2_with fail
       refine bodyPost_ret (by simp [results, Tryd.results48, go_sem, s0, s1, s2, s3]) rfl F.out
     case true =>
      obtain ⟨y0, y1, y2, y3, y4, y5, y6, y7, y8, y9, ya, yb⟩ := cells12 RE RA RB
      go_wp2_with fail
      refine (spec_l6Is aop an aname (.slice A3 akids.length p3) 1 _ akids ⟨_, _, rfl⟩).mono ?_
      rw [HA1.out]
      rintro e w11 ⟨rfl, x11⟩
      clear y0 y1 y2 y3 y4 y5 y6 y7 y8 y9 ya yb
      replace hw := hw.trans (x11.mono hw.size)
      replace RE := RE.below x11 RE.lt
      replace RR := RR.below x11 RR.lt
      replace RA := RA.below x11 RA.lt
      replace RB := RB.below x11 RB.lt
      cases vA1
      case false =>
       obtain ⟨s0, s1, s2, s3, f0, f1, f2, f3⟩ := cells8 RR
       obtain ⟨y0, y1, y2, y3, y4, y5, y6, y7, y8, y9, ya, yb⟩ := cells12 RE RA RB
       have F := leaf_fin (f := T) hw hB (Nat.le_succ _) RR he (by rw [← HTT.out]; unfold foldTwo; simp [HN.out, HB0.out, HB1.out, HA0.out, HA1.out])
       go_wp2_with fail
       refine bodyPost_ret (by simp [results, Tryd.results48, go_sem, s0, s1, s2, s3]) rfl F.out
      case true =>
       obtain ⟨s0, s1, s2, s3, f0, f1, f2, f3⟩ := cells8 RR
       obtain ⟨y0, y1, y2, y3, y4, y5, y6, y7, y8, y9, ya, yb⟩ := cells12 RE RA RB
       have F := leaf_fin (f := T) hw hB (Nat.le_succ _) RR he (by rw [← HTT.out]; unfold foldTwo; simp [HN.out, HB0.out, HB1.out, HA0.out, HA1.out])
       go_wp2_with fail
       refine bodyPost_ret (by simp [results, Tryd.results48, go_sem, s0, s1, s2, s3]) rfl F.out
  by_cases qb : bop = 1
  case neg =>
   have qb' : (bop == 1) = false := by simpa using qb
   have HN : Hid (numB 7 (Ex.mk aop an aname akids) (Ex.mk bop bn bname bkids) = false) := by show _ = _; simp [numB, Ex.op, qb]
   subst qa
   clear qb
   obtain ⟨y0, y1, y2, y3, y4, y5, y6, y7, y8, y9, ya, yb⟩ := cells12 RE RA RB
   go_wp2_with fail
   refine (spec_l6Is bop bn bname (.slice A4 bkids.length p4) 0 _ bkids ⟨_, _, rfl⟩).mono ?_
   rw [HB0.out]
   rintro e w8 ⟨rfl, x8⟩
   clear y0 y1 y2 y3 y4 y5 y6 y7 y8 y9 ya yb
   replace hw := hw.trans (x8.mono hw.size)
   replace RE := RE.below x8 RE.lt
   replace RR := RR.below x8 RR.lt
   replace RA := RA.below x8 RA.lt
   replace RB := RB.below x8 RB.lt
   cases vB0
   case false =>
    obtain ⟨y0, y1, y2, y3, y4, y5, y6, y7, y8, y9, ya, yb⟩ := cells12 RE RA RB
    go_wp2_with fail
    refine (spec_l6Is bop bn bname (.slice A4 bkids.length p4) 1 _ bkids ⟨_, _, rfl⟩).mono ?_
    rw [HB1.out]
    rintro e w9 ⟨rfl, x9⟩
    clear y0 y1 y2 y3 y4 y5 y6 y7 y8 y9 ya yb
    replace hw := hw.trans (x9.mono hw.size)
    replace RE := RE.below x9 RE.lt
    replace RR := RR.below x9 RR.lt
    replace RA := RA.below x9 RA.lt
    replace RB := RB.below x9 RB.lt
    cases vB1
    case false =>
     obtain ⟨y0, y1, y2, y3, y4, y5, y6, y7, y8, y9, ya, yb⟩ := cells12 RE RA RB
     go_wp2_with fail
     refine (spec_l6Is 1 an aname (.slice A3 akids.length p3) 0 _ akids ⟨_, _, rfl⟩).mono ?_
     rw [HA0.out]
     rintro e w10 ⟨rfl, x10⟩
     clear y0 y1 y2 y3 y4 y5 y6 y7 y8 y9 ya yb
     replace hw := hw.trans (x10.mono hw.size)
     replace RE := RE.below x10 RE.lt
     replace RR := RR.below x10 RR.lt
     replace RA := RA.below x10 RA.lt
     replace RB := RB.below x10 RB.lt
     cases vA0
     case false =>
      obtain ⟨y0, y1, y2, y3, y4, y5, y6, y7, y8, y9, ya, yb⟩ := cells12 RE RA RB
      go_wp2_with fail
      refine (spec_l6Is 1 an aname (.slice A3 akids.length p3) 1 _ akids ⟨_, _, rfl⟩).mono ?_
      rw [HA1.out]
      rintro e w11 ⟨rfl, x11⟩
      clear y0 y1 y2 y3 y4 y5 y6 y7 y8 y9 ya yb
      replace hw := hw.trans (x11.mono hw.size)
      replace RE := RE.below x11 RE.lt
      replace RR := RR.below x11 RR.lt
      replace RA := RA.below x11 RA.lt
      replace RB := RB.below x11 RB.lt
      cases vA1
      case false =>
       obtain ⟨s0, s1, s2, s3, f0, f1, f2, f3⟩ := cells8 RR
       obtain ⟨y0, y1, y2, y3, y4, y5, y6, y7, y8, y9, ya, yb⟩ := cells12 RE RA RB
       have F := leaf_fin (f := T) hw hB (Nat.le_succ _) RR he (by rw [← HTT.out]; unfold foldTwo; simp [HN.out, HB0.out, HB1.out, HA0.out, HA1.out])
       go_wp2_with fail
       refine bodyPost_ret (by simp [results, Tryd.results48, go_sem, s0, s1, s2, s3]) rfl F.out
      case true =>
       obtain ⟨s0, s1, s2, s3, f0, f1, f2, f3⟩ := cells8 RR
       obtain ⟨y0, y1, y2, y3, y4, y5, y6, y7, y8, y9, ya, yb⟩ := cells12 RE RA RB
       have F := leaf_fin (f := T) hw hB (Nat.le_succ _) RR he (by rw [← HTT.out]; unfold foldTwo; simp [HN.out, HB0.out, HB1.out, HA0.out, HA1.out])
       go_wp2_with fail
       refine bodyPost_ret (by simp [results, Tryd.results48, go_sem, s0, s1, s2, s3]) rfl F.out
     case true =>
      obtain ⟨y0, y1, y2, y3, y4, y5, y6, y7, y8, y9, ya, yb⟩ := cells12 RE RA RB
      go_wp2_with fail
      refine (spec_l6Is 1 an aname (.slice A3 akids.length p3) 1 _ akids ⟨_, _, rfl⟩).mono ?_
      rw [HA1.out]
      rintro e w11 ⟨rfl, x11⟩
      clear y0 y1 y2 y3 y4 y5 y6 y7 y8 y9 ya yb
      replace hw := hw.trans (x11.mono hw.size)
      replace RE := RE.below x11 RE.lt
      replace RR := RR.below x11 RR.lt
      replace RA := RA.below x11 RA.lt
      replace RB := RB.below x11 RB.lt
      cases vA1
      case false =>
       obtain ⟨s0, s1, s2, s3, f0, f1, f2, f3⟩ := cells8 RR
       obtain ⟨y0, y1, y2, y3, y4, y5, y6, y7, y8, y9, ya, yb⟩ := cells12 RE RA RB
       have F := leaf_fin (f := T) hw hB (Nat.le_succ _) RR he (by rw [← HTT.out]; unfold foldTwo; simp [HN.out, HB0.out, HB1.out, HA0.out, HA1.out])
       go_wp2_with fail
       refine bodyPost_ret (by simp [results, Tryd.results48, go_sem, s0, s1, s2, s3]) rfl F.out
      case true =>
       obtain ⟨s0, s1, s2, s3, f0, f1, f2, f3⟩ := cells8 RR
       obtain ⟨y0, y1, y2, y3, y4, y5, y6, y7, y8, y9, ya, yb⟩ := cells12 RE RA RB
       have F := leaf_fin (f := T) hw hB (Nat.le_succ _) RR he (by rw [← HTT.out]; unfold foldTwo; simp [HN.out, HB0.out, HB1.out, HA0.out, HA1.out])
       go_wp2_with fail
       refine bodyPost_ret (by simp [results, Tryd.results48, go_sem, s0, s1, s2, s3]) rfl F.out
    case true =>
     obtain ⟨y0, y1, y2, y3, y4, y5, y6, y7, y8, y9, ya, yb⟩ := cells12 RE RA RB
     go_wp2_with fail
     refine (spec_l6Is 1 an aname (.slice A3 akids.length p3) 0 _ akids ⟨_, _, rfl⟩).mono ?_
     rw [HA0.out]
     rintro e w10 ⟨rfl, x10⟩
     clear y0 y1 y2 y3 y4 y5 y6 y7 y8 y9 ya yb
     replace hw := hw.trans (x10.mono hw.size)
     replace RE := RE.below x10 RE.lt
     replace RR := RR.below x10 RR.lt
     replace RA := RA.below x10 RA.lt
     replace RB := RB.below x10 RB.lt
     cases vA0
     case false =>
      obtain ⟨y0, y1, y2, y3, y4, y5, y6, y7, y8, y9, ya, yb⟩ := cells12 RE RA RB
      go_wp2_with fail
      refine (spec_l6Is 1 an aname (.slice A3 akids.length p3) 1 _ akids ⟨_, _, rfl⟩).mono ?_
      rw [HA1.out]
      rintro e w11 ⟨rfl, x11⟩
      clear y0 y1 y2 y3 y4 y5 y6 y7 y8 y9 ya yb
      replace hw := hw.trans (x11.mono hw.size)
      replace RE := RE.below x11 RE.lt
      replace RR := RR.below x11 RR.lt
      replace RA := RA.below x11 RA.lt
      replace RB := RB.below x11 RB.lt
      cases vA1
      case false =>
       obtain ⟨s0, s1, s2, s3, f0, f1, f2, f3⟩ := cells8 RR
       obtain ⟨y0, y1, y2, y3, y4, y5, y6, y7, y8, y9, ya, yb⟩ := cells12 RE RA RB
       have F := leaf_fin (f := T) hw hB (Nat.le_succ _) RR he (by rw [← HTT.out]; unfold foldTwo; simp [HN.out, HB0.out, HB1.out, HA0.out, HA1.out])
       go_wp2_with fail
       refine bodyPost_ret (by simp [results, Tryd.results48, go_sem, s0, s1, s2, s3]) rfl F.out
      case true =>
       obtain ⟨s0, s1, s2, s3, f0, f1, f2, f3⟩ := cells8 RR
       obtain ⟨y0, y1, y2, y3, y4, y5, y6, y7, y8, y9, ya, yb⟩ := cells12 RE RA RB
       have F := leaf_fin (f := T) hw hB (Nat.le_succ _) RR he (by rw [← HTT.out]; unfold foldTwo; simp [HN.out, HB0.out, HB1.out, HA0.out, HA1.out])
       go_wp2_with fail
       refine bodyPost_ret (by simp [results, Tryd.results48, go_sem, s0, s1, s2, s3]) rfl F.out
     case true =>
      obtain ⟨y0, y1, y2, y3, y4, y5, y6, y7, y8, y9, ya, yb⟩ := cells12 RE RA RB
      go_wp2_with fail
      refine (spec_l6Is 1 an aname (.slice A3 akids.length p3) 1 _ akids ⟨_, _, rfl⟩).mono ?_
      rw [HA1.out]
      rintro e w11 ⟨rfl, x11⟩
      clear y0 y1 y2 y3 y4 y5 y6 y7 y8 y9 ya yb
      replace hw := hw.trans (x11.mono hw.size)
      replace RE := RE.below x11 RE.lt
      replace RR := RR.below x11 RR.lt
      replace RA := RA.below x11 RA.lt
      replace RB := RB.below x11 RB.lt
      cases vA1
      case false =>
       obtain ⟨s0, s1, s2, s3, f0, f1, f2, f3⟩ := cells8 RR
       obtain ⟨y0, y1, y2, y3, y4, y5, y6, y7, y8, y9, ya, yb⟩ := cells12 RE RA RB
       have F := leaf_fin (f := T) hw hB (Nat.le_succ _) RR he (by rw [← HTT.out]; unfold foldTwo; simp [HN.out, HB0.out, HB1.out, HA0.out, HA1.out])
       go_wp2_with fail
       refine bodyPost_ret (by simp [results, Tryd.results48, go_sem, s0, s1, s2, s3]) rfl F.out
      case true =>
       obtain ⟨s0, s1, s2, s3, f0, f1, f2, f3⟩ := cells8 RR
       obtain ⟨y0, y1, y2, y3, y4, y5, y6, y7, y8, y9, ya, yb⟩ := cells12 RE RA RB
       have F := leaf_fin (f := T) hw hB (Nat.le_succ _) RR he (by rw [← HTT.out]; unfold foldTwo; simp [HN.out, HB0.out, HB1.out, HA0.out, HA1.out])
       go_wp2_with fail
       refine bodyPost_ret (by simp [results, Tryd.results48, go_sem, s0, s1, s2, s3]) rfl F.out
   case true =>
    obtain ⟨y0, y1, y2, y3, y4, y5, y6, y7, y8, y9, ya, yb⟩ := cells12 RE RA RB
    go_wp2_with fail
    refine (spec_l6Is bop bn bname (.slice A4 bkids.length p4) 1 _ bkids ⟨_, _, rfl⟩).mono ?_
    rw [HB1.out]
    rintro e w9 ⟨rfl, x9⟩
    clear y0 y1 y2 y3 y4 y5 y6 y7 y8 y9 ya yb
    replace hw := hw.trans (x9.mono hw.size)
    replace RE := RE.below x9 RE.lt
    replace RR := RR.below x9 RR.lt
    replace RA := RA.below x9 RA.lt
    replace RB := RB.below x9 RB.lt
    cases vB1
    case false =>
     obtain ⟨y0, y1, y2, y3, y4, y5, y6, y7, y8, y9, ya, yb⟩ := cells12 RE RA RB
     go_wp2_with fail
     refine (spec_l6Is 1 an aname (.slice A3 akids.length p3) 0 _ akids ⟨_, _, rfl⟩).mono ?_
     rw [HA0.out]
     rintro e w10 ⟨rfl, x10⟩
     clear y0 y1 y2 y3 y4 y5 y6 y7 y8 y9 ya yb
     replace hw := hw.trans (x10.mono hw.size)
     replace RE := RE.below x10 RE.lt
     replace RR := RR.below x10 RR.lt
     replace RA := RA.below x10 RA.lt
     replace RB := RB.below x10 RB.lt
     cases vA0
     case false =>
      obtain ⟨y0, y1, y2, y3, y4, y5, y6, y7, y8, y9, ya, yb⟩ := cells12 RE RA RB
      go_wp2_with fail
      refine (spec_l6Is 1 an aname (.slice A3 akids.length p3) 1 _ akids ⟨_, _, rfl⟩).mono ?_
      rw [HA1.out]
      rintro e w11 ⟨rfl, x11⟩
      clear y0 y1 y2 y3 y4 y5 y6 y7 y8 y9 ya yb
      replace hw := hw.trans (x11.mono hw.size)
      replace RE := RE.below x11 RE.lt
      replace RR := RR.below x11 RR.lt
      replace RA := RA.below x11 RA.lt
      replace RB := RB.below x11 RB.lt
      cases vA1
      case false =>
       obtain ⟨s0, s1, s2, s3, f0, f1, f2, f3⟩ := cells8 RR
       obtain ⟨y0, y1, y2, y3, y4, y5, y6, y7, y8, y9, ya, yb⟩ := cells12 RE RA RB
       have F := leaf_fin (f := T) hw hB (Nat.le_succ _) RR he (by rw [← HTT.out]; unfold foldTwo; simp [HN.out, HB0.out, HB1.out, HA0.out, HA1.out])
       go_wp2_with fail
       refine bodyPost_ret (by simp [results, Tryd.results48, go_sem, s0, s1, s2, s3]) rfl F.out
      case true =>
       obtain ⟨s0, s1, s2, s3, f0, f1, f2, f3⟩ := cells8 RR
       obtain ⟨y0, y1, y2, y3, y4, y5, y6, y7, y8, y9, ya, yb⟩ := cells12 RE RA RB
       have F := leaf_fin (f := T) hw hB (Nat.le_succ _) RR he (by rw [← HTT.out]; unfold foldTwo; simp [HN.out, HB0.out, HB1.out, HA0.out, HA1.out])
       go_wp2_with fail
       refine bodyPost_ret (by simp [results, Tryd.results48, go_sem, s0, s1, s2, s3]) rfl F.out
     case true =>
      obtain ⟨y0, y1, y2, y3, y4, y5, y6, y7, y8, y9, ya, yb⟩ := cells12 RE RA RB
      go_wp2_with fail
      refine (spec_l6Is 1 an aname (.slice A3 akids.length p3) 1 _ akids ⟨_, _, rfl⟩).mono ?_
      rw [HA1.out]
      rintro e w11 ⟨rfl, x11⟩
      clear y0 y1 y2 y3 y4 y5 y6 y7 y8 y9 ya yb
      replace hw := hw.trans (x11.mono hw.size)
      replace RE := RE.below x11 RE.lt
      replace RR := RR.below x11 RR.lt
      replace RA := RA.below x11 RA.lt
      replace RB := RB.below x11 RB.lt
      cases vA1
      case false =>
       obtain ⟨s0, s1, s2, s3, f0, f1, f2, f3⟩ := cells8 RR
       obtain ⟨y0, y1, y2, y3, y4, y5, y6, y7, y8, y9, ya, yb⟩ := cells12 RE RA RB
       have F := leaf_fin (f := T) hw hB (Nat.le_succ _) RR he (by rw [← HTT.out]; unfold foldTwo; simp [HN.out, HB0.out, HB1.out, HA0.out, HA1.out])
       go_wp2_with fail
       refine bodyPost_ret (by simp [results, Tryd.results48, go_sem, s0, s1, s2, s3]) rfl F.out
      case true =>
       obtain ⟨s0, s1, s2, s3, f0, f1, f2, f3⟩ := cells8 RR
       obtain ⟨y0, y1, y2, y3, y4, y5, y6, y7, y8, y9, ya, yb⟩ := cells12 RE RA RB
       have F := leaf_fin (f := T) hw hB (Nat.le_succ _) RR he (by rw [← HTT.out]; unfold foldTwo; simp [HN.out, HB0.out, HB1.out, HA0.out, HA1.out])
       go_wp2_with fail
       refine bodyPost_ret (by simp [results, Tryd.results48, go_sem, s0, s1, s2, s3]) rfl F.out
    case true =>
     obtain ⟨y0, y1, y2, y3, y4, y5, y6, y7, y8, y9, ya, yb⟩ := cells12 RE RA RB
     go_wp2_with fail
     refine (spec_l6Is 1 an aname (.slice A3 akids.length p3) 0 _ akids ⟨_, _, rfl⟩).mono ?_
     rw [HA0.out]
     rintro e w10 ⟨rfl, x10⟩
     clear y0 y1 y2 y3 y4 y5 y6 y7 y8 y9 ya yb
     replace hw := hw.trans (x10.mono hw.size)
     replace RE := RE.below x10 RE.lt
     replace RR := RR.below x10 RR.lt
     replace RA := RA.below x10 RA.lt
     replace RB := RB.below x10 RB.lt
     cases vA0
     case false =>
      obtain ⟨y0, y1, y2, y3, y4, y5, y6, y7, y8, y9, ya, yb⟩ := cells12 RE RA RB
      go_wp2_with fail
      refine (spec_l6Is 1 an aname (.slice A3 akids.length p3) 1 _ akids ⟨_, _, rfl⟩).mono ?_
      rw [HA1.out]
      rintro e w11 ⟨rfl, x11⟩
      clear y0 y1 y2 y3 y4 y5 y6 y7 y8 y9 ya yb
      replace hw := hw.trans (x11.mono hw.size)
      replace RE := RE.below x11 RE.lt
      replace RR := RR.below x11 RR.lt
      replace RA := RA.below x11 RA.lt
      replace RB := RB.below x11 RB.lt
      cases vA1
      case false =>
       obtain ⟨s0, s1, s2, s3, f0, f1, f2, f3⟩ := cells8 RR
       obtain ⟨y0, y1, y2, y3, y4, y5, y6, y7, y8, y9, ya, yb⟩ := cells12 RE RA RB
       have F := leaf_fin (f := T) hw hB (Nat.le_succ _) RR he (by rw [← HTT.out]; unfold foldTwo; simp [HN.out, HB0.out, HB1.out, HA0.out, HA1.out])
       go_wp2_with fail
       refine bodyPost_ret (by simp [results, Tryd.results48, go_sem, s0, s1, s2, s3]) rfl F.out
      case true =>
       obtain ⟨s0, s1, s2, s3, f0, f1, f2, f3⟩ := cells8 RR
       obtain ⟨y0, y1, y2, y3, y4, y5, y6, y7, y8, y9, ya, yb⟩ := cells12 RE RA RB
       have F := leaf_fin (f := T) hw hB (Nat.le_succ _) RR he (by rw [← HTT.out]; unfold foldTwo; simp [HN.out, HB0.out, HB1.out, HA0.out, HA1.out])
       go_wp2_with fail
       refine bodyPost_ret (by simp [results, Tryd.results48, go_sem, s0, s1, s2, s3]) rfl F.out
     case true =>
      obtain ⟨y0, y1, y2, y3, y4, y5, y6, y7, y8, y9, ya, yb⟩ := cells12 RE RA RB
      go_wp2_with fail
      refine (spec_l6Is 1 an aname (.slice A3 akids.length p3) 1 _ akids ⟨_, _, rfl⟩).mono ?_
      rw [HA1.out]
      rintro e w11 ⟨rfl, x11⟩
      clear y0 y1 y2 y3 y4 y5 y6 y7 y8 y9 ya yb
      replace hw := hw.trans (x11.mono hw.size)
      replace RE := RE.below x11 RE.lt
      replace RR := RR.below x11 RR.lt
      replace RA := RA.below x11 RA.lt
      replace RB := RB.below x11 RB.lt
      cases vA1
      case false =>
       obtain ⟨s0, s1, s2, s3, f0, f1, f2, f3⟩ := cells8 RR
       obtain ⟨y0, y1, y2, y3, y4, y5, y6, y7, y8, y9, ya, yb⟩ := cells12 RE RA RB
       have F := leaf_fin (f := T) hw hB (Nat.le_succ _) RR he (by rw [← HTT.out]; unfold foldTwo; simp [HN.out, HB0.out, HB1.out, HA0.out, HA1.out])
       go_wp2_with fail
       refine bodyPost_ret (by simp [results, Tryd.results48, go_sem, s0, s1, s2, s3]) rfl F.out
      case true =>
       obtain ⟨s0, s1, s2, s3, f0, f1, f2, f3⟩ := cells8 RR
       obtain ⟨y0, y1, y2, y3, y4, y5, y6, y7, y8, y9, ya, yb⟩ := cells12 RE RA RB
       have F := leaf_fin (f := T) hw hB (Nat.le_succ _) RR he (by rw [← HTT.out]; unfold foldTwo; simp [HN.out, HB0.out, HB1.out, HA0.out, HA1.out])
       go_wp2_with fail
       refine bodyPost_ret (by simp [results, Tryd.results48, go_sem, s0, s1, s2, s3]) rfl F.out
  subst qa qb
  obtain ⟨an0, an1⟩ := ra rfl
  obtain ⟨bn0, bn1⟩ := rb rfl
  clear ra rb
  by_cases hbz : bn = 0
  case pos =>
    have hv : (arV 7 an bn).2 = false := by simp [arV, hbz]
    have HN : Hid (numB 7 (Ex.mk 1 an aname akids) (Ex.mk 1 bn bname bkids) = false) := by show _ = _; simp [numB, Ex.op, Ex.n, hv]
    have HV := Lib.hid (show endC (arV 7 an bn).2 = 1 by rw [hv]; rfl)
    obtain rfl : vB0 = true := by rw [← HB0.out, hbz]; simp [isN, Ex.op, Ex.n]
    obtain rfl : vB1 = false := by rw [← HB1.out, hbz]; simp [isN, Ex.op, Ex.n]
    clear hv hbz
    obtain ⟨y0, y1, y2, y3, y4, y5, y6, y7, y8, y9, ya, yb⟩ := cells12 RE RA RB
    go_wp2_with fail
    refine (spec_l5Eval_two (d + 1) 7 n name [(Ex.mk 1 an aname akids), (Ex.mk 1 bn bname bkids)] _ p _ lo B an bn aname bname akids bkids (Nat.le_trans hB hw.size) (h3s.below hw hB) rfl an0 an1 bn0 bn1 (by omega) (by omega)).mono ?_
    rw [HV.out]
    rintro e w8 ⟨rfl, x8⟩
    clear y0 y1 y2 y3 y4 y5 y6 y7 y8 y9 ya yb
    replace hw := hw.trans (x8.mono hw.size)
    replace RE := RE.below x8 RE.lt
    replace RR := RR.below x8 RR.lt
    replace RA := RA.below x8 RA.lt
    replace RB := RB.below x8 RB.lt
    obtain ⟨y0, y1, y2, y3, y4, y5, y6, y7, y8, y9, ya, yb⟩ := cells12 RE RA RB
    go_wp2_with fail
    refine (spec_l6Is 1 bn bname (.slice A4 bkids.length p4) 0 _ bkids ⟨_, _, rfl⟩).mono ?_
    rw [HB0.out]
    rintro e w9 ⟨rfl, x9⟩
    clear y0 y1 y2 y3 y4 y5 y6 y7 y8 y9 ya yb
    replace hw := hw.trans (x9.mono hw.size)
    replace RE := RE.below x9 RE.lt
    replace RR := RR.below x9 RR.lt
    replace RA := RA.below x9 RA.lt
    replace RB := RB.below x9 RB.lt
    obtain ⟨y0, y1, y2, y3, y4, y5, y6, y7, y8, y9, ya, yb⟩ := cells12 RE RA RB
    go_wp2_with fail
    refine (spec_l6Is 1 bn bname (.slice A4 bkids.length p4) 1 _ bkids ⟨_, _, rfl⟩).mono ?_
    rw [HB1.out]
    rintro e w10 ⟨rfl, x10⟩
    clear y0 y1 y2 y3 y4 y5 y6 y7 y8 y9 ya yb
    replace hw := hw.trans (x10.mono hw.size)
    replace RE := RE.below x10 RE.lt
    replace RR := RR.below x10 RR.lt
    replace RA := RA.below x10 RA.lt
    replace RB := RB.below x10 RB.lt
    obtain ⟨y0, y1, y2, y3, y4, y5, y6, y7, y8, y9, ya, yb⟩ := cells12 RE RA RB
    go_wp2_with fail
    refine (spec_l6Is 1 an aname (.slice A3 akids.length p3) 0 _ akids ⟨_, _, rfl⟩).mono ?_
    rw [HA0.out]
    rintro e w11 ⟨rfl, x11⟩
    clear y0 y1 y2 y3 y4 y5 y6 y7 y8 y9 ya yb
    replace hw := hw.trans (x11.mono hw.size)
    replace RE := RE.below x11 RE.lt
    replace RR := RR.below x11 RR.lt
    replace RA := RA.below x11 RA.lt
    replace RB := RB.below x11 RB.lt
    cases vA0
    case false =>
     obtain ⟨y0, y1, y2, y3, y4, y5, y6, y7, y8, y9, ya, yb⟩ := cells12 RE RA RB
     go_wp2_with fail
     refine (spec_l6Is 1 an aname (.slice A3 akids.length p3) 1 _ akids ⟨_, _, rfl⟩).mono ?_
     rw [HA1.out]
     rintro e w12 ⟨rfl, x12⟩
     clear y0 y1 y2 y3 y4 y5 y6 y7 y8 y9 ya yb
     replace hw := hw.trans (x12.mono hw.size)
     replace RE := RE.below x12 RE.lt
     replace RR := RR.below x12 RR.lt
     replace RA := RA.below x12 RA.lt
     replace RB := RB.below x12 RB.lt
     cases vA1
     case false =>
      obtain ⟨s0, s1, s2, s3, f0, f1, f2, f3⟩ := cells8 RR
      obtain ⟨y0, y1, y2, y3, y4, y5, y6, y7, y8, y9, ya, yb⟩ := cells12 RE RA RB
      have F := leaf_fin (f := T) hw hB (Nat.le_succ _) RR he (by rw [← HTT.out]; unfold foldTwo; simp [HN.out, HB0.out, HB1.out, HA0.out, HA1.out])
      go_wp2_with fail
      refine bodyPost_ret (by simp [results, Tryd.results48, go_sem, s0, s1, s2, s3]) rfl F.out
     case true =>
      obtain ⟨s0, s1, s2, s3, f0, f1, f2, f3⟩ := cells8 RR
      obtain ⟨y0, y1, y2, y3, y4, y5, y6, y7, y8, y9, ya, yb⟩ := cells12 RE RA RB
      have F := leaf_fin (f := T) hw hB (Nat.le_succ _) RR he (by rw [← HTT.out]; unfold foldTwo; simp [HN.out, HB0.out, HB1.out, HA0.out, HA1.out])
      go_wp2_with fail
      refine bodyPost_ret (by simp [results, Tryd.results48, go_sem, s0, s1, s2, s3]) rfl F.out
    case true =>
     obtain ⟨y0, y1, y2, y3, y4, y5, y6, y7, y8, y9, ya, yb⟩ := cells12 RE RA RB
     go_wp2_with fail
     refine (spec_l6Is 1 an aname (.slice A3 akids.length p3) 1 _ akids ⟨_, _, rfl⟩).mono ?_
     rw [HA1.out]
     rintro e w12 ⟨rfl, x12⟩
     clear y0 y1 y2 y3 y4 y5 y6 y7 y8 y9 ya yb
     replace hw := hw.trans (x12.mono hw.size)
     replace RE := RE.below x12 RE.lt
     replace RR := RR.below x12 RR.lt
     replace RA := RA.below x12 RA.lt
     replace RB := RB.below x12 RB.lt
     cases vA1
     case false =>
      obtain ⟨s0, s1, s2, s3, f0, f1, f2, f3⟩ := cells8 RR
      obtain ⟨y0, y1, y2, y3, y4, y5, y6, y7, y8, y9, ya, yb⟩ := cells12 RE RA RB
      have F := leaf_fin (f := T) hw hB (Nat.le_succ _) RR he (by rw [← HTT.out]; unfold foldTwo; simp [HN.out, HB0.out, HB1.out, HA0.out, HA1.out])
      go_wp2_with fail
      refine bodyPost_ret (by simp [results, Tryd.results48, go_sem, s0, s1, s2, s3]) rfl F.out
     case true =>
      obtain ⟨s0, s1, s2, s3, f0, f1, f2, f3⟩ := cells8 RR
      obtain ⟨y0, y1, y2, y3, y4, y5, y6, y7, y8, y9, ya, yb⟩ := cells12 RE RA RB
      have F := leaf_fin (f := T) hw hB (Nat.le_succ _) RR he (by rw [← HTT.out]; unfold foldTwo; simp [HN.out, HB0.out, HB1.out, HA0.out, HA1.out])
      go_wp2_with fail
      refine bodyPost_ret (by simp [results, Tryd.results48, go_sem, s0, s1, s2, s3]) rfl F.out
  have hv : (arV 7 an bn).2 = true := by simp [arV, hbz]
  clear hbz
  have HN : Hid (numB 7 (Ex.mk 1 an aname akids) (Ex.mk 1 bn bname bkids) = true) := by show _ = _; simp [numB, Ex.op, Ex.n, hv]
  have HV := Lib.hid (show endC (arV 7 an bn).2 = 0 by rw [hv]; rfl)
  have hI : I64 (arV 7 an bn).1 := by
    have := arV_range (op := 7) an0 an1 bn0 bn1
    exact ⟨by omega, by omega⟩
  clear hv
  obtain ⟨y0, y1, y2, y3, y4, y5, y6, y7, y8, y9, ya, yb⟩ := cells12 RE RA RB
  go_wp2_with fail
  refine (spec_l5Eval_two (d + 1) 7 n name [(Ex.mk 1 an aname akids), (Ex.mk 1 bn bname bkids)] _ p _ lo B an bn aname bname akids bkids (Nat.le_trans hB hw.size) (h3s.below hw hB) rfl an0 an1 bn0 bn1 (by omega) (by omega)).mono ?_
  rw [HV.out]
  rintro e w8 ⟨rfl, x8⟩
  clear y0 y1 y2 y3 y4 y5 y6 y7 y8 y9 ya yb
  replace hw := hw.trans (x8.mono hw.size)
  replace RE := RE.below x8 RE.lt
  replace RR := RR.below x8 RR.lt
  replace RA := RA.below x8 RA.lt
  replace RB := RB.below x8 RB.lt
  obtain ⟨y0, y1, y2, y3, y4, y5, y6, y7, y8, y9, ya, yb⟩ := cells12 RE RA RB
  go_wp2_with fail
  refine (spec_num (d + 1) ((arV 7 an bn).1) _ hI).mono ?_
  rintro e w9 ⟨An, cn, rfl, hnr, x9⟩
  clear y0 y1 y2 y3 y4 y5 y6 y7 y8 y9 ya yb
  replace hw := hw.trans (x9.mono hw.size)
  replace RE := RE.below x9 RE.lt
  replace RR := RR.below x9 RR.lt
  replace RA := RA.below x9 RA.lt
  replace RB := RB.below x9 RB.lt
  obtain ⟨s0, s1, s2, s3, f0, f1, f2, f3⟩ := cells8 RR
  obtain ⟨y0, y1, y2, y3, y4, y5, y6, y7, y8, y9, ya, yb⟩ := cells12 RE RA RB
  have F := leaf_fin (f := T) hw hB (Nat.le_succ _) RR (hnr w lo B) (show T = exN1 ((arV 7 an bn).1) by rw [← HTT.out]; unfold foldTwo; rw [if_pos HN.out]; rfl)
  go_wp2_with fail
  refine bodyPost_ret (by simp [results, Tryd.results48, go_sem, s0, s1, s2, s3]) rfl F.out
end Go.Proofs.YthfinoapfbhgcaaDoor

namespace Go.Proofs.YthfinoapfbhgcaaDoor
open Go.RowKit Go.ChangeShapes Go.WideShapes Go.Deep
set_option linter.unusedVariables false
set_option linter.unusedSimpArgs false
set_option maxRecDepth 100000 in
set_option maxHeartbeats 16000000 in
theorem spec_l6Part_8 (d : Nat) (n : Int) (name : ByteArray) (aop an : Int) (aname : ByteArray) (akids : List Ex) (bop bn : Int) (bname : ByteArray) (bkids : List Ex) (A : Option Addr) (p : Nat) (w : World) (lo B : Nat) (hB : B ≤ w.heap.size) (hn : I64 n) (hnm : name.size ≤ maxLen)
    (h3 : ∀ m, SlT m (exT m (d + 1)) w lo B [.mk aop an aname akids, .mk bop bn bname bkids] (.slice A 2 p)) (ra : aop = 1 → 0 ≤ an ∧ an ≤ 255) (rb : bop = 1 → 0 ≤ bn ∧ bn ≤ 255) (fa : formB 6 (.mk aop an aname akids) = true) (fb : formB 6 (.mk bop bn bname bkids) = true) :
    Calls Tryd.prog 48 #[.agg #[.int .i64 8, .int .i64 n, .string name, .slice A 2 p]] w (FoldRP (d + 1) (foldTwo 8 (Ex.mk aop an aname akids) (Ex.mk bop bn bname bkids) (Ex.mk 8 n name [(Ex.mk aop an aname akids), (Ex.mk bop bn bname bkids)])) lo B w) := by
  obtain ⟨blk, op1, n1, nm1, k1, A3, p3, rfl, hlb, hbB, HL1, oa, na, sa, ha', c0, c1, c2, c3⟩ := exT_get d h3 (show 0 < 2 by omega)
  have e1 := HL1.out
  injection e1 with e1 e2 e3 e4
  subst e1 e2 e3 e4
  obtain ⟨blk', op2, n2, nm2, k2, A4, p4, hA, _, _, HL2, ob, nb, sb, hb', c4, c5, c6, c7⟩ := exT_get d h3 (show 1 < 2 by omega)
  injection hA with hA
  injection hA with hA
  subst hA
  have e1 := HL2.out
  injection e1 with e1 e2 e3 e4
  subst e1 e2 e3 e4
  have he : ∀ m, (exT m (d + 1 + 1)).rep w lo B (Ex.mk 8 n name [(Ex.mk aop an aname akids), (Ex.mk bop bn bname bkids)]) [.int .i64 8, .int .i64 n, .string name, .slice (some ⟨blk, 0, none⟩) 2 p] := fun m => exT_mk m (d + 1) 8 n name _ _ ⟨by omega, by omega⟩ hn hnm (h3 m)
  have ha : ∀ m, (exT m (d + 1 + 1)).rep w lo B (Ex.mk aop an aname akids) [.int .i64 aop, .int .i64 an, .string aname, .slice A3 akids.length p3] := fun m => exT_le m (Nat.le_succ _) (ha' m)
  have hb : ∀ m, (exT m (d + 1 + 1)).rep w lo B (Ex.mk bop bn bname bkids) [.int .i64 bop, .int .i64 bn, .string bname, .slice A4 bkids.length p4] := fun m => exT_le m (Nat.le_succ _) (hb' m)
  have ska : Sl false (exS false d) w lo B akids (.slice A3 akids.length p3) := (exT_kids d (ha' false)).exS
  have skb : Sl false (exS false d) w lo B bkids (.slice A4 bkids.length p4) := (exT_kids d (hb' false)).exS
  have h3s : Sl false (exS false (d + 1)) w lo B [(Ex.mk aop an aname akids), (Ex.mk bop bn bname bkids)] (.slice (some ⟨blk, 0, none⟩) 2 p) := (h3 false).exS
  clear ha' hb' h3 HL1 HL2
  obtain ⟨T, hTT⟩ : ∃ T, foldTwo 8 (Ex.mk aop an aname akids) (Ex.mk bop bn bname bkids) (Ex.mk 8 n name [(Ex.mk aop an aname akids), (Ex.mk bop bn bname bkids)]) = T := ⟨_, rfl⟩
  rw [hTT]
  have HTT := Lib.hid hTT
  clear hTT
  have hblk : blk < w.heap.size := by omega
  obtain ⟨vA0, hvA0⟩ : ∃ v, isN (Ex.mk aop an aname akids) 0 = v := ⟨_, rfl⟩
  obtain ⟨vA1, hvA1⟩ : ∃ v, isN (Ex.mk aop an aname akids) 1 = v := ⟨_, rfl⟩
  obtain ⟨vB0, hvB0⟩ : ∃ v, isN (Ex.mk bop bn bname bkids) 0 = v := ⟨_, rfl⟩
  obtain ⟨vB1, hvB1⟩ : ∃ v, isN (Ex.mk bop bn bname bkids) 1 = v := ⟨_, rfl⟩
  obtain ⟨vSA, hvSA⟩ : ∃ v, safeE 6 (Ex.mk aop an aname akids) = v := ⟨_, rfl⟩
  obtain ⟨vSB, hvSB⟩ : ∃ v, safeE 6 (Ex.mk bop bn bname bkids) = v := ⟨_, rfl⟩
  have HA0 := Lib.hid hvA0
  have HA1 := Lib.hid hvA1
  have HB0 := Lib.hid hvB0
  have HB1 := Lib.hid hvB1
  have HSA := Lib.hid hvSA
  have HSB := Lib.hid hvSB
  clear hvA0 hvA1 hvB0 hvB1 hvSA hvSB

  have hw : Below w.heap.size w ((w.alloc (.cells #[.int .i64 8, .int .i64 n, .string name, .slice (some ⟨blk, 0, none⟩) 2 p] 25)).alloc (.cells #[.int .i64 0, .int .i64 0, .string ⟨#[]⟩, .slice none 0 0] 25)) := ((Below.refl _ _).alloc (Nat.le_refl _) _).alloc (by simp) _
  have RE : Row _ w.heap.size 25 #[.int .i64 8, .int .i64 n, .string name, .slice (some ⟨blk, 0, none⟩) 2 p] := (Row.new w _ _).alloc (.cells #[.int .i64 0, .int .i64 0, .string ⟨#[]⟩, .slice none 0 0] 25)
  have RR : Row ((w.alloc (.cells #[.int .i64 8, .int .i64 n, .string name, .slice (some ⟨blk, 0, none⟩) 2 p] 25)).alloc (.cells #[.int .i64 0, .int .i64 0, .string ⟨#[]⟩, .slice none 0 0] 25)) (w.heap.size + 1) 25 #[.int .i64 0, .int .i64 0, .string ⟨#[]⟩, .slice none 0 0] := by simpa using Row.new (w.alloc (.cells #[.int .i64 8, .int .i64 n, .string name, .slice (some ⟨blk, 0, none⟩) 2 p] 25)) 25 #[.int .i64 0, .int .i64 0, .string ⟨#[]⟩, .slice none 0 0]
  go_enter Tryd.func48, Tryd.ntmps48
  go_wp2_with fail
  refine (spec_l1In 8 3 10 _).mono ?_
  rw [show inB 8 3 10 = true from by decide]
  rintro e w5 ⟨rfl, hw5⟩
  rw [hw5] at hw RE RR
  clear hw5
  obtain ⟨k0, k1, k2, k3, k4, k5, k6, k7⟩ := kids8 hw hblk c0 c1 c2 c3 c4 c5 c6 c7
  obtain ⟨z0, z1, z2, z3⟩ := cells4 RE
  have y_6 := (Below.refl _ w5).alloc (Nat.le_refl _) (.cells #[.int .i64 aop, .int .i64 an, .string aname, .slice A3 akids.length p3] 25)
  replace hw := hw.trans (y_6.mono hw.size)
  replace RE := RE.below y_6 RE.lt
  replace RR := RR.below y_6 RR.lt
  have RA : Row _ _ _ #[.int .i64 aop, .int .i64 an, .string aname, .slice A3 akids.length p3] := Row.new w5 25 _
  obtain ⟨l0, l1, l2, l3, l4, l5, l6, l7⟩ := kids8 hw hblk c0 c1 c2 c3 c4 c5 c6 c7
  obtain ⟨t0, t1, t2, t3⟩ := cells4 RE
  have y_7 := (Below.refl _ (w5.alloc (.cells #[.int .i64 aop, .int .i64 an, .string aname, .slice A3 akids.length p3] 25))).alloc (Nat.le_refl _) (.cells #[.int .i64 bop, .int .i64 bn, .string bname, .slice A4 bkids.length p4] 25)
  replace hw := hw.trans (y_7.mono hw.size)
  replace RE := RE.below y_7 RE.lt
  replace RR := RR.below y_7 RR.lt
  replace RA := RA.below y_7 RA.lt
  have RB : Row ((w5.alloc (.cells #[.int .i64 aop, .int .i64 an, .string aname, .slice A3 akids.length p3] 25)).alloc (.cells #[.int .i64 bop, .int .i64 bn, .string bname, .slice A4 bkids.length p4] 25)) (w5.heap.size + 1) 25 #[.int .i64 bop, .int .i64 bn, .string bname, .slice A4 bkids.length p4] := by simpa using Row.new (w5.alloc (.cells #[.int .i64 aop, .int .i64 an, .string aname, .slice A3 akids.length p3] 25)) 25 #[.int .i64 bop, .int .i64 bn, .string bname, .slice A4 bkids.length p4]
  clear c0 c1 c2 c3 c4 c5 c6 c7
  by_cases qa : aop = 1
  case neg =>
   have qa' : (aop == 1) = false := by simpa using qa
   have HN : Hid (numB 8 (Ex.mk aop an aname akids) (Ex.mk bop bn bname bkids) = false) := by show _ = _; simp [numB, Ex.op, qa]
   clear qa
   obtain ⟨y0, y1, y2, y3, y4, y5, y6, y7, y8, y9, ya, yb⟩ := cells12 RE RA RB
   go_wp2_with fail
   refine (spec_l6Is bop bn bname (.slice A4 bkids.length p4) 0 _ bkids ⟨_, _, rfl⟩).mono ?_
   rw [HB0.out]
   rintro e w8 ⟨rfl, x8⟩
   clear y0 y1 y2 y3 y4 y5 y6 y7 y8 y9 ya yb
   replace hw := hw.trans (x8.mono hw.size)
   replace RE := RE.below x8 RE.lt
   replace RR := RR.below x8 RR.lt
   replace RA := RA.below x8 RA.lt
   replace RB := RB.below x8 RB.lt
   cases vB0
   case false =>
    obtain ⟨y0, y1, y2, y3, y4, y5, y6, y7, y8, y9, ya, yb⟩ := cells12 RE RA RB
    go_wp2_with fail
    refine (spec_l6Is bop bn bname (.slice A4 bkids.length p4) 1 _ bkids ⟨_, _, rfl⟩).mono ?_
    rw [HB1.out]
    rintro e w9 ⟨rfl, x9⟩
    clear y0 y1 y2 y3 y4 y5 y6 y7 y8 y9 ya yb
    replace hw := hw.trans (x9.mono hw.size)
    replace RE := RE.below x9 RE.lt
    replace RR := RR.below x9 RR.lt
    replace RA := RA.below x9 RA.lt
    replace RB := RB.below x9 RB.lt
    cases vB1
    case false =>
     obtain ⟨y0, y1, y2, y3, y4, y5, y6, y7, y8, y9, ya, yb⟩ := cells12 RE RA RB
     go_wp2_with fail
     refine (spec_l6Is aop an aname (.slice A3 akids.length p3) 0 _ akids ⟨_, _, rfl⟩).mono ?_
     rw [HA0.out]
     rintro e w10 ⟨rfl, x10⟩
     clear y0 y1 y2 y3 y4 y5 y6 y7 y8 y9 ya yb
     replace hw := hw.trans (x10.mono hw.size)
     replace RE := RE.below x10 RE.lt
     replace RR := RR.below x10 RR.lt
     replace RA := RA.below x10 RA.lt
     replace RB := RB.below x10 RB.lt
     cases vA0
     case false =>
      obtain ⟨y0, y1, y2, y3, y4, y5, y6, y7, y8, y9, ya, yb⟩ := cells12 RE RA RB
      go_wp2_with fail
      refine (spec_l6Is aop an aname (.slice A3 akids.length p3) 1 _ akids ⟨_, _, rfl⟩).mono ?_
      rw [HA1.out]
      rintro e w11 ⟨rfl, x11⟩
      clear y0 y1 y2 y3 y4 y5 y6 y7 y8 y9 ya yb
      replace hw := hw.trans (x11.mono hw.size)
      replace RE := RE.below x11 RE.lt
      replace RR := RR.below x11 RR.lt
      replace RA := RA.below x11 RA.lt
      replace RB := RB.below x11 RB.lt
      cases vA1
      case false =>
       obtain ⟨s0, s1, s2, s3, f0, f1, f2, f3⟩ := cells8 RR
       obtain ⟨y0, y1, y2, y3, y4, y5, y6, y7, y8, y9, ya, yb⟩ := cells12 RE RA RB
       have F := leaf_fin (f := T) hw hB (Nat.le_succ _) RR he (by rw [← HTT.out]; unfold foldTwo; simp [HN.out, HB0.out, HB1.out, HA0.out, HA1.out])
       go_wp2_with fail
       refine bodyPost_ret (by simp [results, Tryd.results48, go_sem, s0, s1, s2, s3]) rfl F.out
      case true =>
       obtain ⟨s0, s1, s2, s3, f0, f1, f2, f3⟩ := cells8 RR
       obtain ⟨y0, y1, y2, y3, y4, y5, y6, y7, y8, y9, ya, yb⟩ := cells12 RE RA RB
       have F := leaf_fin (f := T) hw hB (Nat.le_succ _) RR he (by rw [← HTT.out]; unfold foldTwo; simp [HN.out, HB0.out, HB1.out, HA0.out, HA1.out])
       go_wp2_with fail
       refine bodyPost_ret (by simp [results, Tryd.results48, go_sem, s0, s1, s2, s3]) rfl F.out
     case true =>
      obtain ⟨y0, y1, y2, y3, y4, y5, y6, y7, y8, y9, ya, yb⟩ := cells12 RE RA RB
      go_wp2_with fail
      refine (spec_l6Is aop an aname (.slice A3 akids.length p3) 1 _ akids ⟨_, _, rfl⟩).mono ?_
      rw [HA1.out]
      rintro e w11 ⟨rfl, x11⟩
      clear y0 y1 y2 y3 y4 y5 y6 y7 y8 y9 ya yb
      replace hw := hw.trans (x11.mono hw.size)
      replace RE := RE.below x11 RE.lt
      replace RR := RR.below x11 RR.lt
      replace RA := RA.below x11 RA.lt
      replace RB := RB.below x11 RB.lt
      cases vA1
      case false =>
       obtain ⟨s0, s1, s2, s3, f0, f1, f2, f3⟩ := cells8 RR
       obtain ⟨y0, y1, y2, y3, y4, y5, y6, y7, y8, y9, ya, yb⟩ := cells12 RE RA RB
       have F := leaf_fin (f := T) hw hB (Nat.le_succ _) RR he (by rw [← HTT.out]; unfold foldTwo; simp [HN.out, HB0.out, HB1.out, HA0.out, HA1.out])
       go_wp2_with fail
       refine bodyPost_ret (by simp [results, Tryd.results48, go_sem, s0, s1, s2, s3]) rfl F.out
      case true =>
       obtain ⟨s0, s1, s2, s3, f0, f1, f2, f3⟩ := cells8 RR
       obtain ⟨y0, y1, y2, y3, y4, y5, y6, y7, y8, y9, ya, yb⟩ := cells12 RE RA RB
       have F := leaf_fin (f := T) hw hB (Nat.le_succ _) RR he (by rw [← HTT.out]; unfold foldTwo; simp [HN.out, HB0.out, HB1.out, HA0.out, HA1.out])
       go_wp2_with fail
       refine bodyPost_ret (by simp [results, Tryd.results48, go_sem, s0, s1, s2, s3]) rfl F.out
    case true =>
     obtain ⟨y0, y1, y2, y3, y4, y5, y6, y7, y8, y9, ya, yb⟩ := cells12 RE RA RB
     go_wp2_with fail
     refine (spec_l6Is aop an aname (.slice A3 akids.length p3) 0 _ akids ⟨_, _, rfl⟩).mono ?_
     rw [HA0.out]
     rintro e w10 ⟨rfl, x10⟩
     clear y0 y1 y2 y3 y4 y5 y6 y7 y8 y9 ya yb
     replace hw := hw.trans (x10.mono hw.size)
     replace RE := RE.below x10 RE.lt
     replace RR := RR.below x10 RR.lt
     replace RA := RA.below x10 RA.lt
     replace RB := RB.below x10 RB.lt
     cases vA0
     case false =>
      obtain ⟨y0, y1, y2, y3, y4, y5, y6, y7, y8, y9, ya, yb⟩ := cells12 RE RA RB
      go_wp2_with fail
      refine (spec_l6Is aop an aname (.slice A3 akids.length p3) 1 _ akids ⟨_, _, rfl⟩).mono ?_
      rw [HA1.out]
      rintro e w11 ⟨rfl, x11⟩
      clear y0 y1 y2 y3 y4 y5 y6 y7 y8 y9 ya yb
      replace hw := hw.trans (x11.mono hw.size)
      replace RE := RE.below x11 RE.lt
      replace RR := RR.below x11 RR.lt
      replace RA := RA.below x11 RA.lt
      replace RB := RB.below x11 RB.lt
      cases vA1
      case false =>
       obtain ⟨s0, s1, s2, s3, f0, f1, f2, f3⟩ := cells8 RR
       obtain ⟨y0, y1, y2, y3, y4, y5, y6, y7, y8, y9, ya, yb⟩ := cells12 RE RA RB
       have F := leaf_fin (f := T) hw hB (Nat.le_succ _) RR he (by rw [← HTT.out]; unfold foldTwo; simp [HN.out, HB0.out, HB1.out, HA0.out, HA1.out])
       go_wp2_with fail
       refine bodyPost_ret (by simp [results, Tryd.results48, go_sem, s0, s1, s2, s3]) rfl F.out
      case true =>
       obtain ⟨s0, s1, s2, s3, f0, f1, f2, f3⟩ := cells8 RR
       obtain ⟨y0, y1, y2, y3, y4, y5, y6, y7, y8, y9, ya, yb⟩ := cells12 RE RA RB
       have F := leaf_fin (f := T) hw hB (Nat.le_succ _) RR he (by rw [← HTT.out]; unfold foldTwo; simp [HN.out, HB0.out, HB1.out, HA0.out, HA1.out])
       go_wp2_with fail
       refine bodyPost_ret (by simp [results, Tryd.results48, go_sem, s0, s1, s2, s3]) rfl F.out
     case true =>
      obtain ⟨y0, y1, y2, y3, y4, y5, y6, y7, y8, y9, ya, yb⟩ := cells12 RE RA RB
      go_wp2_with fail
      refine (spec_l6Is aop an aname (.slice A3 akids.length p3) 1 _ akids ⟨_, _, rfl⟩).mono ?_
      rw [HA1.out]
      rintro e w11 ⟨rfl, x11⟩
      clear y0 y1 y2 y3 y4 y5 y6 y7 y8 y9 ya yb
      replace hw := hw.trans (x11.mono hw.size)
      replace RE := RE.below x11 RE.lt
      replace RR := RR.below x11 RR.lt
      replace RA := RA.below x11 RA.lt
      replace RB := RB.below x11 RB.lt
      cases vA1
      case false =>
       obtain ⟨s0, s1, s2, s3, f0, f1, f2, f3⟩ := cells8 RR
       obtain ⟨y0, y1, y2, y3, y4, y5, y6, y7, y8, y9, ya, yb⟩ := cells12 RE RA RB
       have F := leaf_fin (f := T) hw hB (Nat.le_succ _) RR he (by rw [← HTT.out]; unfold foldTwo; simp [HN.out, HB0.out, HB1.out, HA0.out, HA1.out])
       go_wp2_with fail
       refine bodyPost_ret (by simp [results, Tryd.results48, go_sem, s0, s1, s2, s3]) rfl F.out
      case true =>
       obtain ⟨s0, s1, s2, s3, f0, f1, f2, f3⟩ := cells8 RR
       obtain ⟨y0, y1, y2, y3, y4, y5, y6, y7, y8, y9, ya, yb⟩ := cells12 RE RA RB
       have F := leaf_fin (f := T) hw hB (Nat.le_succ _) RR he (by rw [← HTT.out]; unfold foldTwo; simp [HN.out, HB0.out, HB1.out, HA0.out, HA1.out])
       go_wp2_with fail
       refine bodyPost_ret (by simp [results, Tryd.results48, go_sem, s0, s1, s2, s3]) rfl F.out
   case true =>
    obtain ⟨y0, y1, y2, y3, y4, y5, y6, y7, y8, y9, ya, yb⟩ := cells12 RE RA RB
    go_wp2_with fail
    refine (spec_l6Is bop bn bname (.slice A4 bkids.length p4) 1 _ bkids ⟨_, _, rfl⟩).mono ?_
    rw [HB1.out]
    rintro e w9 ⟨rfl, x9⟩
    clear y0 y1 y2 y3 y4 y5 y6 y7 y8 y9 ya yb
    replace hw := hw.trans (x9.mono hw.size)
    replace RE := RE.below x9 RE.lt
    replace RR := RR.below x9 RR.lt
    replace RA := RA.below x9 RA.lt
    replace RB := RB.below x9 RB.lt
    cases vB1
    case false =>
     obtain ⟨y0, y1, y2, y3, y4, y5, y6, y7, y8, y9, ya, yb⟩ := cells12 RE RA RB
     go_wp2_with fail
     refine (spec_l6Is aop an aname (.slice A3 akids.length p3) 0 _ akids ⟨_, _, rfl⟩).mono ?_
     rw [HA0.out]
     rintro e w10 ⟨rfl, x10⟩
     clear y0 y1 y2 y3 y4 y5 y6 y7 y8 y9 ya yb
     replace hw := hw.trans (x10.mono hw.size)
     replace RE := RE.below x10 RE.lt
     replace RR := RR.below x10 RR.lt
     replace RA := RA.below x10 RA.lt
     replace RB := RB.below x10 RB.lt
     cases vA0
     case false =>
      obtain ⟨y0, y1, y2, y3, y4, y5, y6, y7, y8, y9, ya, yb⟩ := cells12 RE RA RB
      go_wp2_with fail
      refine (spec_l6Is aop an aname (.slice A3 akids.length p3) 1 _ akids ⟨_, _, rfl⟩).mono ?_
      rw [HA1.out]
      rintro e w11 ⟨rfl, x11⟩
      clear y0 y1 y2 y3 y4 y5 y6 y7 y8 y9 ya yb
      replace hw := hw.trans (x11.mono hw.size)
      replace RE := RE.below x11 RE.lt
      replace RR := RR.below x11 RR.lt
      replace RA := RA.below x11 RA.lt
      replace RB := RB.below x11 RB.lt
      cases vA1
      case false =>
       obtain ⟨s0, s1, s2, s3, f0, f1, f2, f3⟩ := cells8 RR
       obtain ⟨y0, y1, y2, y3, y4, y5, y6, y7, y8, y9, ya, yb⟩ := cells12 RE RA RB
       have F := leaf_fin (f := T) hw hB (Nat.le_succ _) RR he (by rw [← HTT.out]; unfold foldTwo; simp [HN.out, HB0.out, HB1.out, HA0.out, HA1.out])
       go_wp2_with fail
       refine bodyPost_ret (by simp [results, Tryd.results48, go_sem, s0, s1, s2, s3]) rfl F.out
      case true =>
       obtain ⟨s0, s1, s2, s3, f0, f1, f2, f3⟩ := cells8 RR
       obtain ⟨y0, y1, y2, y3, y4, y5, y6, y7, y8, y9, ya, yb⟩ := cells12 RE RA RB
       have F := leaf_fin (f := T) hw hB (Nat.le_succ _) RR he (by rw [← HTT.out]; unfold foldTwo; simp [HN.out, HB0.out, HB1.out, HA0.out, HA1.out])
       go_wp2_with fail
       refine bodyPost_ret (by simp [results, Tryd.results48, go_sem, s0, s1, s2, s3]) rfl F.out
     case true =>
      obtain ⟨y0, y1, y2, y3, y4, y5, y6, y7, y8, y9, ya, yb⟩ := cells12 RE RA RB
      go_wp2_with fail
      refine (spec_l6Is aop an aname (.slice A3 akids.length p3) 1 _ akids ⟨_, _, rfl⟩).mono ?_
      rw [HA1.out]
      rintro e w11 ⟨rfl, x11⟩
      clear y0 y1 y2 y3 y4 y5 y6 y7 y8 y9 ya yb
      replace hw := hw.trans (x11.mono hw.size)
      replace RE := RE.below x11 RE.lt
      replace RR := RR.below x11 RR.lt
      replace RA := RA.below x11 RA.lt
      replace RB := RB.below x11 RB.lt
      cases vA1
      case false =>
       obtain ⟨s0, s1, s2, s3, f0, f1, f2, f3⟩ := cells8 RR
       obtain ⟨y0, y1, y2, y3, y4, y5, y6, y7, y8, y9, ya, yb⟩ := cells12 RE RA RB
       have F := leaf_fin (f := T) hw hB (Nat.le_succ _) RR he (by rw [← HTT.out]; unfold foldTwo; simp [HN.out, HB0.out, HB1.out, HA0.out, HA1.out])
       go_wp2_with fail
       refine bodyPost_ret (by simp [results, Tryd.results48, go_sem, s0, s1, s2, s3]) rfl F.out
      case true =>
       obtain ⟨s0, s1, s2, s3, f0, f1, f2, f3⟩ := cells8 RR
       obtain ⟨y0, y1, y2, y3, y4, y5, y6, y7, y8, y9, ya, yb⟩ := cells12 RE RA RB
       have F := leaf_fin (f := T) hw hB (Nat.le_succ _) RR he (by rw [← HTT.out]; unfold foldTwo; simp [HN.out, HB0.out, HB1.out, HA0.out, HA1.out])
       go_wp2_with fail
       refine bodyPost_ret (by simp [results, Tryd.results48, go_sem, s0, s1, s2, s3]) rfl F.out
    case true =>
     obtain ⟨y0, y1, y2, y3, y4, y5, y6, y7, y8, y9, ya, yb⟩ := cells12 RE RA RB
     go_wp2_with fail
     refine (spec_l6Is aop an aname (.slice A3 akids.length p3) 0 _ akids ⟨_, _, rfl⟩).mono ?_
     rw [HA0.out]
     rintro e w10 ⟨rfl, x10⟩
     clear y0 y1 y2 y3 y4 y5 y6 y7 y8 y9 ya yb
     replace hw := hw.trans (x10.mono hw.size)
     replace RE := RE.below x10 RE.lt
     replace RR := RR.below x10 RR.lt
     replace RA := RA.below x10 RA.lt
     replace RB := RB.below x10 RB.lt
     cases vA0
     case false =>
      obtain ⟨y0, y1, y2, y3, y4, y5, y6, y7, y8, y9, ya, yb⟩ := cells12 RE RA RB
      go_wp2_with fail
      refine (spec_l6Is aop an aname (.slice A3 akids.length p3) 1 _ akids ⟨_, _, rfl⟩).mono ?_
      rw [HA1.out]
      rintro e w11 ⟨rfl, x11⟩
      clear y0 y1 y2 y3 y4 y5 y6 y7 y8 y9 ya yb
      replace hw := hw.trans (x11.mono hw.size)
      replace RE := RE.below x11 RE.lt
      replace RR := RR.below x11 RR.lt
      replace RA := RA.below x11 RA.lt
      replace RB := RB.below x11 RB.lt
      cases vA1
      case false =>
       obtain ⟨s0, s1, s2, s3, f0, f1, f2, f3⟩ := cells8 RR
       obtain ⟨y0, y1, y2, y3, y4, y5, y6, y7, y8, y9, ya, yb⟩ := cells12 RE RA RB
       have F := leaf_fin (f := T) hw hB (Nat.le_succ _) RR he (by rw [← HTT.out]; unfold foldTwo; simp [HN.out, HB0.out, HB1.out, HA0.out, HA1.out])
       go_wp2_with fail
       refine bodyPost_ret (by simp [results, Tryd.results48, go_sem, s0, s1, s2, s3]) rfl F.out
      case true =>
       obtain ⟨s0, s1, s2, s3, f0, f1, f2, f3⟩ := cells8 RR
       obtain ⟨y0, y1, y2, y3, y4, y5, y6, y7, y8, y9, ya, yb⟩ := cells12 RE RA RB
       have F := leaf_fin (f := T) hw hB (Nat.le_succ _) RR he (by rw [← HTT.out]; unfold foldTwo; simp [HN.out, HB0.out, HB1.out, HA0.out, HA1.out])
       go_wp2_with fail
       refine bodyPost_ret (by simp [results, Tryd.results48, go_sem, s0, s1, s2, s3]) rfl F.out
     case true =>
      obtain ⟨y0, y1, y2, y3, y4, y5, y6, y7, y8, y9, ya, yb⟩ := cells12 RE RA RB
      go_wp2_with fail
      refine (spec_l6Is aop an aname (.slice A3 akids.length p3) 1 _ akids ⟨_, _, rfl⟩).mono ?_
      rw [HA1.out]
      rintro e w11 ⟨rfl, x11⟩
      clear y0 y1 y2 y3 y4 y5 y6 y7 y8 y9 ya yb
      replace hw := hw.trans (x11.mono hw.size)
      replace RE := RE.below x11 RE.lt
      replace RR := RR.below x11 RR.lt
      replace RA := RA.below x11 RA.lt
      replace RB := RB.below x11 RB.lt
      cases vA1
      case false =>
       obtain ⟨s0, s1, s2, s3, f0, f1, f2, f3⟩ := cells8 RR
       obtain ⟨y0, y1, y2, y3, y4, y5, y6, y7, y8, y9, ya, yb⟩ := cells12 RE RA RB
       have F := leaf_fin (f := T) hw hB (Nat.le_succ _) RR he (by rw [← HTT.out]; unfold foldTwo; simp [HN.out, HB0.out, HB1.out, HA0.out, HA1.out])
       go_wp2_with fail
       refine bodyPost_ret (by simp [results, Tryd.results48, go_sem, s0, s1, s2, s3]) rfl F.out
      case true =>
       obtain ⟨s0, s1, s2, s3, f0, f1, f2, f3⟩ := cells8 RR
       obtain ⟨y0, y1, y2, y3, y4, y5, y6, y7, y8, y9, ya, yb⟩ := cells12 RE RA RB
       have F := leaf_fin (f := T) hw hB (Nat.le_succ _) RR he (by rw [← HTT.out]; unfold foldTwo; simp [HN.out, HB0.out, HB1.out, HA0.out, HA1.out])
       go_wp2_with fail
       refine bodyPost_ret (by simp [results, Tryd.results48, go_sem, s0, s1, s2, s3]) rfl F.out
  by_cases qb : bop = 1
  case neg =>
   have qb' : (bop == 1) = false := by simpa using qb
   have HN : Hid (numB 8 (Ex.mk aop an aname akids) (Ex.mk bop bn bname bkids) = false) := by show _ = _; simp [numB, Ex.op, qb]
   subst qa
   clear qb
   obtain ⟨y0, y1, y2, y3, y4, y5, y6, y7, y8, y9, ya, yb⟩ := cells12 RE RA RB
   go_wp2_with fail
   refine (spec_l6Is bop bn bname (.slice A4 bkids.length p4) 0 _ bkids ⟨_, _, rfl⟩).mono ?_
   rw [HB0.out]
   rintro e w8 ⟨rfl, x8⟩
   clear y0 y1 y2 y3 y4 y5 y6 y7 y8 y9 ya yb
   replace hw := hw.trans (x8.mono hw.size)
   replace RE := RE.below x8 RE.lt
   replace RR := RR.below x8 RR.lt
   replace RA := RA.below x8 RA.lt
   replace RB := RB.below x8 RB.lt
   cases vB0
   case false =>
    obtain ⟨y0, y1, y2, y3, y4, y5, y6, y7, y8, y9, ya, yb⟩ := cells12 RE RA RB
    go_wp2_with fail
    refine (spec_l6Is bop bn bname (.slice A4 bkids.length p4) 1 _ bkids ⟨_, _, rfl⟩).mono ?_
    rw [HB1.out]
    rintro e w9 ⟨rfl, x9⟩
    clear y0 y1 y2 y3 y4 y5 y6 y7 y8 y9 ya yb
    replace hw := hw.trans (x9.mono hw.size)
    replace RE := RE.below x9 RE.lt
    replace RR := RR.below x9 RR.lt
    replace RA := RA.below x9 RA.lt
    replace RB := RB.below x9 RB.lt
    cases vB1
    case false =>
     obtain ⟨y0, y1, y2, y3, y4, y5, y6, y7, y8, y9, ya, yb⟩ := cells12 RE RA RB
     go_wp2_with fail
     refine (spec_l6Is 1 an aname (.slice A3 akids.length p3) 0 _ akids ⟨_, _, rfl⟩).mono ?_
     rw [HA0.out]
     rintro e w10 ⟨rfl, x10⟩
     clear y0 y1 y2 y3 y4 y5 y6 y7 y8 y9 ya yb
     replace hw := hw.trans (x10.mono hw.size)
     replace RE := RE.below x10 RE.lt
     replace RR := RR.below x10 RR.lt
     replace RA := RA.below x10 RA.lt
     replace RB := RB.below x10 RB.lt
     cases vA0
     case false =>
      obtain ⟨y0, y1, y2, y3, y4, y5, y6, y7, y8, y9, ya, yb⟩ := cells12 RE RA RB
      go_wp2_with fail
      refine (spec_l6Is 1 an aname (.slice A3 akids.length p3) 1 _ akids ⟨_, _, rfl⟩).mono ?_
      rw [HA1.out]
      rintro e w11 ⟨rfl, x11⟩
      clear y0 y1 y2 y3 y4 y5 y6 y7 y8 y9 ya yb
      replace hw := hw.trans (x11.mono hw.size)
      replace RE := RE.below x11 RE.lt
      replace RR := RR.below x11 RR.lt
      replace RA := RA.below x11 RA.lt
      replace RB := RB.below x11 RB.lt
      cases vA1
      case false =>
       obtain ⟨s0, s1, s2, s3, f0, f1, f2, f3⟩ := cells8 RR
       obtain ⟨y0, y1, y2, y3, y4, y5, y6, y7, y8, y9, ya, yb⟩ := cells12 RE RA RB
       have F := leaf_fin (f := T) hw hB (Nat.le_succ _) RR he (by rw [← HTT.out]; unfold foldTwo; simp [HN.out, HB0.out, HB1.out, HA0.out, HA1.out])
       go_wp2_with fail
       refine bodyPost_ret (by simp [results, Tryd.results48, go_sem, s0, s1, s2, s3]) rfl F.out
      case true =>
       obtain ⟨s0, s1, s2, s3, f0, f1, f2, f3⟩ := cells8 RR
       obtain ⟨y0, y1, y2, y3, y4, y5, y6, y7, y8, y9, ya, yb⟩ := cells12 RE RA RB
       have F := leaf_fin (f := T) hw hB (Nat.le_succ _) RR he (by rw [← HTT.out]; unfold foldTwo; simp [HN.out, HB0.out, HB1.out, HA0.out, HA1.out])
       go_wp2_with fail
       refine bodyPost_ret (by simp [results, Tryd.results48, go_sem, s0, s1, s2, s3]) rfl F.out
     case true =>
      obtain ⟨y0, y1, y2, y3, y4, y5, y6, y7, y8, y9, ya, yb⟩ := cells12 RE RA RB
      go_wp2_with fail
      refine (spec_l6Is 1 an aname (.slice A3 akids.length p3) 1 _ akids ⟨_, _, rfl⟩).mono ?_
      rw [HA1.out]
      rintro e w11 ⟨rfl, x11⟩
      clear y0 y1 y2 y3 y4 y5 y6 y7 y8 y9 ya yb
      replace hw := hw.trans (x11.mono hw.size)
      replace RE := RE.below x11 RE.lt
      replace RR := RR.below x11 RR.lt
      replace RA := RA.below x11 RA.lt
      replace RB := RB.below x11 RB.lt
      cases vA1
      case false =>
       obtain ⟨s0, s1, s2, s3, f0, f1, f2, f3⟩ := cells8 RR
       obtain ⟨y0, y1, y2, y3, y4, y5, y6, y7, y8, y9, ya, yb⟩ := cells12 RE RA RB
       have F := leaf_fin (f := T) hw hB (Nat.le_succ _) RR he (by rw [← HTT.out]; unfold foldTwo; simp [HN.out, HB0.out, HB1.out, HA0.out, HA1.out])
       go_wp2_with fail
       refine bodyPost_ret (by simp [results, Tryd.results48, go_sem, s0, s1, s2, s3]) rfl F.out
      case true =>
       obtain ⟨s0, s1, s2, s3, f0, f1, f2, f3⟩ := cells8 RR
       obtain ⟨y0, y1, y2, y3, y4, y5, y6, y7, y8, y9, ya, yb⟩ := cells12 RE RA RB
       have F := leaf_fin (f := T) hw hB (Nat.le_succ _) RR he (by rw [← HTT.out]; unfold foldTwo; simp [HN.out, HB0.out, HB1.out, HA0.out, HA1.out])
       go_wp2_with fail
       refine bodyPost_ret (by simp [results, Tryd.results48, go_sem, s0, s1, s2, s3]) rfl F.out
    case true =>
     obtain ⟨y0, y1, y2, y3, y4, y5, y6, y7, y8, y9, ya, yb⟩ := cells12 RE RA RB
     go_wp2_with fail
     refine (spec_l6Is 1 an aname (.slice A3 akids.length p3) 0 _ akids ⟨_, _, rfl⟩).mono ?_
     rw [HA0.out]
     rintro e w10 ⟨rfl, x10⟩
     clear y0 y1 y2 y3 y4 y5 y6 y7 y8 y9 ya yb
     replace hw := hw.trans (x10.mono hw.size)
     replace RE := RE.below x10 RE.lt
     replace RR := RR.below x10 RR.lt
     replace RA := RA.below x10 RA.lt
     replace RB := RB.below x10 RB.lt
     cases vA0
     case false =>
      obtain ⟨y0, y1, y2, y3, y4, y5, y6, y7, y8, y9, ya, yb⟩ := cells12 RE RA RB
      go_wp2_with fail
      refine (spec_l6Is 1 an aname (.slice A3 akids.length p3) 1 _ akids ⟨_, _, rfl⟩).mono ?_
      rw [HA1.out]
      rintro e w11 ⟨rfl, x11⟩
      clear y0 y1 y2 y3 y4 y5 y6 y7 y8 y9 ya yb
      replace hw := hw.trans (x11.mono hw.size)
      replace RE := RE.below x11 RE.lt
      replace RR := RR.below x11 RR.lt
      replace RA := RA.below x11 RA.lt
      replace RB := RB.below x11 RB.lt
      cases vA1
      case false =>
       obtain ⟨s0, s1, s2, s3, f0, f1, f2, f3⟩ := cells8 RR
       obtain ⟨y0, y1, y2, y3, y4, y5, y6, y7, y8, y9, ya, yb⟩ := cells12 RE RA RB
       have F := leaf_fin (f := T) hw hB (Nat.le_succ _) RR he (by rw [← HTT.out]; unfold foldTwo; simp [HN.out, HB0.out, HB1.out, HA0.out, HA1.out])
       go_wp2_with fail
       refine bodyPost_ret (by simp [results, Tryd.results48, go_sem, s0, s1, s2, s3]) rfl F.out
      case true =>
       obtain ⟨s0, s1, s2, s3, f0, f1, f2, f3⟩ := cells8 RR
       obtain ⟨y0, y1, y2, y3, y4, y5, y6, y7, y8, y9, ya, yb⟩ := cells12 RE RA RB
       have F := leaf_fin (f := T) hw hB (Nat.le_succ _) RR he (by rw [← HTT.out]; unfold foldTwo; simp [HN.out, HB0.out, HB1.out, HA0.out, HA1.out])
       go_wp2_with fail
       refine bodyPost_ret (by simp [results, Tryd.results48, go_sem, s0, s1, s2, s3]) rfl F.out
     case true =>
      obtain ⟨y0, y1, y2, y3, y4, y5, y6, y7, y8, y9, ya, yb⟩ := cells12 RE RA RB
      go_wp2_with fail
      refine (spec_l6Is 1 an aname (.slice A3 akids.length p3) 1 _ akids ⟨_, _, rfl⟩).mono ?_
      rw [HA1.out]
      rintro e w11 ⟨rfl, x11⟩
      clear y0 y1 y2 y3 y4 y5 y6 y7 y8 y9 ya yb
      replace hw := hw.trans (x11.mono hw.size)
      replace RE := RE.below x11 RE.lt
      replace RR := RR.below x11 RR.lt
      replace RA := RA.below x11 RA.lt
      replace RB := RB.below x11 RB.lt
      cases vA1
      case false =>
       obtain ⟨s0, s1, s2, s3, f0, f1, f2, f3⟩ := cells8 RR
       obtain ⟨y0, y1, y2, y3, y4, y5, y6, y7, y8, y9, ya, yb⟩ := cells12 RE RA RB
       have F := leaf_fin (f := T) hw hB (Nat.le_succ _) RR he (by rw [← HTT.out]; unfold foldTwo; simp [HN.out, HB0.out, HB1.out, HA0.out, HA1.out])
       go_wp2_with fail
       refine bodyPost_ret (by simp [results, Tryd.results48, go_sem, s0, s1, s2, s3]) rfl F.out
      case true =>
       obtain ⟨s0, s1, s2, s3, f0, f1, f2, f3⟩ := cells8 RR
       obtain ⟨y0, y1, y2, y3, y4, y5, y6, y7, y8, y9, ya, yb⟩ := cells12 RE RA RB
       have F := leaf_fin (f := T) hw hB (Nat.le_succ _) RR he (by rw [← HTT.out]; unfold foldTwo; simp [HN.out, HB0.out, HB1.out, HA0.out, HA1.out])
       go_wp2_with fail
       refine bodyPost_ret (by simp [results, Tryd.results48, go_sem, s0, s1, s2, s3]) rfl F.out
   case true =>
    obtain ⟨y0, y1, y2, y3, y4, y5, y6, y7, y8, y9, ya, yb⟩ := cells12 RE RA RB
    go_wp2_with fail
    refine (spec_l6Is bop bn bname (.slice A4 bkids.length p4) 1 _ bkids ⟨_, _, rfl⟩).mono ?_
    rw [HB1.out]
    rintro e w9 ⟨rfl, x9⟩
    clear y0 y1 y2 y3 y4 y5 y6 y7 y8 y9 ya yb
    replace hw := hw.trans (x9.mono hw.size)
    replace RE := RE.below x9 RE.lt
    replace RR := RR.below x9 RR.lt
    replace RA := RA.below x9 RA.lt
    replace RB := RB.below x9 RB.lt
    cases vB1
    case false =>
     obtain ⟨y0, y1, y2, y3, y4, y5, y6, y7, y8, y9, ya, yb⟩ := cells12 RE RA RB
     go_wp2_with fail
     refine (spec_l6Is 1 an aname (.slice A3 akids.length p3) 0 _ akids ⟨_, _, rfl⟩).mono ?_
     rw [HA0.out]
     rintro e w10 ⟨rfl, x10⟩
     clear y0 y1 y2 y3 y4 y5 y6 y7 y8 y9 ya yb
     replace hw := hw.trans (x10.mono hw.size)
     replace RE := RE.below x10 RE.lt
     replace RR := RR.below x10 RR.lt
     replace RA := RA.below x10 RA.lt
     replace RB := RB.below x10 RB.lt
     cases vA0
     case false =>
      obtain ⟨y0, y1, y2, y3, y4, y5, y6, y7, y8, y9, ya, yb⟩ := cells12 RE RA RB
      go_wp2_with fail
      refine (spec_l6Is 1 an aname (.slice A3 akids.length p3) 1 _ akids ⟨_, _, rfl⟩).mono ?_
      rw [HA1.out]
      rintro e w11 ⟨rfl, x11⟩
      clear y0 y1 y2 y3 y4 y5 y6 y7 y8 y9 ya yb
      replace hw := hw.trans (x11.mono hw.size)
      replace RE := RE.below x11 RE.lt
      replace RR := RR.below x11 RR.lt
      replace RA := RA.below x11 RA.lt
      replace RB := RB.below x11 RB.lt
      cases vA1
      case false =>
       obtain ⟨s0, s1, s2, s3, f0, f1, f2, f3⟩ := cells8 RR
       obtain ⟨y0, y1, y2, y3, y4, y5, y6, y7, y8, y9, ya, yb⟩ := cells12 RE RA RB
       have F := leaf_fin (f := T) hw hB (Nat.le_succ _) RR he (by rw [← HTT.out]; unfold foldTwo; simp [HN.out, HB0.out, HB1.out, HA0.out, HA1.out])
       go_wp2_with fail
       refine bodyPost_ret (by simp [results, Tryd.results48, go_sem, s0, s1, s2, s3]) rfl F.out
      case true =>
       obtain ⟨s0, s1, s2, s3, f0, f1, f2, f3⟩ := cells8 RR
       obtain ⟨y0, y1, y2, y3, y4, y5, y6, y7, y8, y9, ya, yb⟩ := cells12 RE RA RB
       have F := leaf_fin (f := T) hw hB (Nat.le_succ _) RR he (by rw [← HTT.out]; unfold foldTwo; simp [HN.out, HB0.out, HB1.out, HA0.out, HA1.out])
       go_wp2_with fail
       refine bodyPost_ret (by simp [results, Tryd.results48, go_sem, s0, s1, s2, s3]) rfl F.out
     case true =>
      obtain ⟨y0, y1, y2, y3, y4, y5, y6, y7, y8, y9, ya, yb⟩ := cells12 RE RA RB
      go_wp2_with fail
      refine (spec_l6Is 1 an aname (.slice A3 akids.length p3) 1 _ akids ⟨_, _, rfl⟩).mono ?_
      rw [HA1.out]
      rintro e w11 ⟨rfl, x11⟩
      clear y0 y1 y2 y3 y4 y5 y6 y7 y8 y9 ya yb
      replace hw := hw.trans (x11.mono hw.size)
      replace RE := RE.below x11 RE.lt
      replace RR := RR.below x11 RR.lt
      replace RA := RA.below x11 RA.lt
      replace RB := RB.below x11 RB.lt
      cases vA1
      case false =>
       obtain ⟨s0, s1, s2, s3, f0, f1, f2, f3⟩ := cells8 RR
       obtain ⟨y0, y1, y2, y3, y4, y5, y6, y7, y8, y9, ya, yb⟩ := cells12 RE RA RB
       have F := leaf_fin (f := T) hw hB (Nat.le_succ _) RR he (by rw [← HTT.out]; unfold foldTwo; simp [HN.out, HB0.out, HB1.out, HA0.out, HA1.out])
       go_wp2_with fail
       refine bodyPost_ret (by simp [results, Tryd.results48, go_sem, s0, s1, s2, s3]) rfl F.out
      case true =>
       obtain ⟨s0, s1, s2, s3, f0, f1, f2, f3⟩ := cells8 RR
       obtain ⟨y0, y1, y2, y3, y4, y5, y6, y7, y8, y9, ya, yb⟩ := cells12 RE RA RB
       have F := leaf_fin (f := T) hw hB (Nat.le_succ _) RR he (by rw [← HTT.out]; unfold foldTwo; simp [HN.out, HB0.out, HB1.out, HA0.out, HA1.out])
       go_wp2_with fail
       refine bodyPost_ret (by simp [results, Tryd.results48, go_sem, s0, s1, s2, s3]) rfl F.out
    case true =>
     obtain ⟨y0, y1, y2, y3, y4, y5, y6, y7, y8, y9, ya, yb⟩ := cells12 RE RA RB
     go_wp2_with fail
     refine (spec_l6Is 1 an aname (.slice A3 akids.length p3) 0 _ akids ⟨_, _, rfl⟩).mono ?_
     rw [HA0.out]
     rintro e w10 ⟨rfl, x10⟩
     clear y0 y1 y2 y3 y4 y5 y6 y7 y8 y9 ya yb
     replace hw := hw.trans (x10.mono hw.size)
     replace RE := RE.below x10 RE.lt
     replace RR := RR.below x10 RR.lt
     replace RA := RA.below x10 RA.lt
     replace RB := RB.below x10 RB.lt
     cases vA0
     case false =>
      obtain ⟨y0, y1, y2, y3, y4, y5, y6, y7, y8, y9, ya, yb⟩ := cells12 RE RA RB
      go_wp2_with fail
      refine (spec_l6Is 1 an aname (.slice A3 akids.length p3) 1 _ akids ⟨_, _, rfl⟩).mono ?_
      rw [HA1.out]
      rintro e w11 ⟨rfl, x11⟩
      clear y0 y1 y2 y3 y4 y5 y6 y7 y8 y9 ya yb
      replace hw := hw.trans (x11.mono hw.size)
      replace RE := RE.below x11 RE.lt
      replace RR := RR.below x11 RR.lt
      replace RA := RA.below x11 RA.lt
      replace RB := RB.below x11 RB.lt
      cases vA1
      case false =>
       obtain ⟨s0, s1, s2, s3, f0, f1, f2, f3⟩ := cells8 RR
       obtain ⟨y0, y1, y2, y3, y4, y5, y6, y7, y8, y9, ya, yb⟩ := cells12 RE RA RB
       have F := leaf_fin (f := T) hw hB (Nat.le_succ _) RR he (by rw [← HTT.out]; unfold foldTwo; simp [HN.out, HB0.out, HB1.out, HA0.out, HA1.out])
       go_wp2_with fail
       refine bodyPost_ret (by simp [results, Tryd.results48, go_sem, s0, s1, s2, s3]) rfl F.out
      case true =>
       obtain ⟨s0, s1, s2, s3, f0, f1, f2, f3⟩ := cells8 RR
       obtain ⟨y0, y1, y2, y3, y4, y5, y6, y7, y8, y9, ya, yb⟩ := cells12 RE RA RB
       have F := leaf_fin (f := T) hw hB (Nat.le_succ _) RR he (by rw [← HTT.out]; unfold foldTwo; simp [HN.out, HB0.out, HB1.out, HA0.out, HA1.out])
       go_wp2_with fail
       refine bodyPost_ret (by simp [results, Tryd.results48, go_sem, s0, s1, s2, s3]) rfl F.out
     case true =>
      obtain ⟨y0, y1, y2, y3, y4, y5, y6, y7, y8, y9, ya, yb⟩ := cells12 RE RA RB
      go_wp2_with fail
      refine (spec_l6Is 1 an aname (.slice A3 akids.length p3) 1 _ akids ⟨_, _, rfl⟩).mono ?_
      rw [HA1.out]
      rintro e w11 ⟨rfl, x11⟩
      clear y0 y1 y2 y3 y4 y5 y6 y7 y8 y9 ya yb
      replace hw := hw.trans (x11.mono hw.size)
      replace RE := RE.below x11 RE.lt
      replace RR := RR.below x11 RR.lt
      replace RA := RA.below x11 RA.lt
      replace RB := RB.below x11 RB.lt
      cases vA1
      case false =>
       obtain ⟨s0, s1, s2, s3, f0, f1, f2, f3⟩ := cells8 RR
       obtain ⟨y0, y1, y2, y3, y4, y5, y6, y7, y8, y9, ya, yb⟩ := cells12 RE RA RB
       have F := leaf_fin (f := T) hw hB (Nat.le_succ _) RR he (by rw [← HTT.out]; unfold foldTwo; simp [HN.out, HB0.out, HB1.out, HA0.out, HA1.out])
       go_wp2_with fail
       refine bodyPost_ret (by simp [results, Tryd.results48, go_sem, s0, s1, s2, s3]) rfl F.out
      case true =>
       obtain ⟨s0, s1, s2, s3, f0, f1, f2, f3⟩ := cells8 RR
       obtain ⟨y0, y1, y2, y3, y4, y5, y6, y7, y8, y9, ya, yb⟩ := cells12 RE RA RB
       have F := leaf_fin (f := T) hw hB (Nat.le_succ _) RR he (by rw [← HTT.out]; unfold foldTwo; simp [HN.out, HB0.out, HB1.out, HA0.out, HA1.out])
       go_wp2_with fail
       refine bodyPost_ret (by simp [results, Tryd.results48, go_sem, s0, s1, s2, s3]) rfl F.out
  subst qa qb
  obtain ⟨an0, an1⟩ := ra rfl
  obtain ⟨bn0, bn1⟩ := rb rfl
  clear ra rb
  have hv : (arV 8 an bn).2 = true := by simp [arV]
  have HN : Hid (numB 8 (Ex.mk 1 an aname akids) (Ex.mk 1 bn bname bkids) = true) := by show _ = _; simp [numB, Ex.op, Ex.n, hv]
  have HV := Lib.hid (show endC (arV 8 an bn).2 = 0 by rw [hv]; rfl)
  have hI : I64 (arV 8 an bn).1 := by
    have := arV_range (op := 8) an0 an1 bn0 bn1
    exact ⟨by omega, by omega⟩
  clear hv
  obtain ⟨y0, y1, y2, y3, y4, y5, y6, y7, y8, y9, ya, yb⟩ := cells12 RE RA RB
  go_wp2_with fail
  refine (spec_l5Eval_two (d + 1) 8 n name [(Ex.mk 1 an aname akids), (Ex.mk 1 bn bname bkids)] _ p _ lo B an bn aname bname akids bkids (Nat.le_trans hB hw.size) (h3s.below hw hB) rfl an0 an1 bn0 bn1 (by omega) (by omega)).mono ?_
  rw [HV.out]
  rintro e w8 ⟨rfl, x8⟩
  clear y0 y1 y2 y3 y4 y5 y6 y7 y8 y9 ya yb
  replace hw := hw.trans (x8.mono hw.size)
  replace RE := RE.below x8 RE.lt
  replace RR := RR.below x8 RR.lt
  replace RA := RA.below x8 RA.lt
  replace RB := RB.below x8 RB.lt
  obtain ⟨y0, y1, y2, y3, y4, y5, y6, y7, y8, y9, ya, yb⟩ := cells12 RE RA RB
  go_wp2_with fail
  refine (spec_num (d + 1) ((arV 8 an bn).1) _ hI).mono ?_
  rintro e w9 ⟨An, cn, rfl, hnr, x9⟩
  clear y0 y1 y2 y3 y4 y5 y6 y7 y8 y9 ya yb
  replace hw := hw.trans (x9.mono hw.size)
  replace RE := RE.below x9 RE.lt
  replace RR := RR.below x9 RR.lt
  replace RA := RA.below x9 RA.lt
  replace RB := RB.below x9 RB.lt
  obtain ⟨s0, s1, s2, s3, f0, f1, f2, f3⟩ := cells8 RR
  obtain ⟨y0, y1, y2, y3, y4, y5, y6, y7, y8, y9, ya, yb⟩ := cells12 RE RA RB
  have F := leaf_fin (f := T) hw hB (Nat.le_succ _) RR (hnr w lo B) (show T = exN1 ((arV 8 an bn).1) by rw [← HTT.out]; unfold foldTwo; rw [if_pos HN.out]; rfl)
  go_wp2_with fail
  refine bodyPost_ret (by simp [results, Tryd.results48, go_sem, s0, s1, s2, s3]) rfl F.out
end Go.Proofs.YthfinoapfbhgcaaDoor

namespace Go.Proofs.YthfinoapfbhgcaaDoor
open Go.RowKit Go.ChangeShapes Go.WideShapes Go.Deep
set_option linter.unusedVariables false
set_option linter.unusedSimpArgs false
set_option maxRecDepth 100000 in
set_option maxHeartbeats 16000000 in
theorem spec_l6Part_9 (d : Nat) (n : Int) (name : ByteArray) (aop an : Int) (aname : ByteArray) (akids : List Ex) (bop bn : Int) (bname : ByteArray) (bkids : List Ex) (A : Option Addr) (p : Nat) (w : World) (lo B : Nat) (hB : B ≤ w.heap.size) (hn : I64 n) (hnm : name.size ≤ maxLen)
    (h3 : ∀ m, SlT m (exT m (d + 1)) w lo B [.mk aop an aname akids, .mk bop bn bname bkids] (.slice A 2 p)) (ra : aop = 1 → 0 ≤ an ∧ an ≤ 255) (rb : bop = 1 → 0 ≤ bn ∧ bn ≤ 255) (fa : formB 6 (.mk aop an aname akids) = true) (fb : formB 6 (.mk bop bn bname bkids) = true) :
    Calls Tryd.prog 48 #[.agg #[.int .i64 9, .int .i64 n, .string name, .slice A 2 p]] w (FoldRP (d + 1) (foldTwo 9 (Ex.mk aop an aname akids) (Ex.mk bop bn bname bkids) (Ex.mk 9 n name [(Ex.mk aop an aname akids), (Ex.mk bop bn bname bkids)])) lo B w) := by
  obtain ⟨blk, op1, n1, nm1, k1, A3, p3, rfl, hlb, hbB, HL1, oa, na, sa, ha', c0, c1, c2, c3⟩ := exT_get d h3 (show 0 < 2 by omega)
  have e1 := HL1.out
  injection e1 with e1 e2 e3 e4
  subst e1 e2 e3 e4
  obtain ⟨blk', op2, n2, nm2, k2, A4, p4, hA, _, _, HL2, ob, nb, sb, hb', c4, c5, c6, c7⟩ := exT_get d h3 (show 1 < 2 by omega)
  injection hA with hA
  injection hA with hA
  subst hA
  have e1 := HL2.out
  injection e1 with e1 e2 e3 e4
  subst e1 e2 e3 e4
  have he : ∀ m, (exT m (d + 1 + 1)).rep w lo B (Ex.mk 9 n name [(Ex.mk aop an aname akids), (Ex.mk bop bn bname bkids)]) [.int .i64 9, .int .i64 n, .string name, .slice (some ⟨blk, 0, none⟩) 2 p] := fun m => exT_mk m (d + 1) 9 n name _ _ ⟨by omega, by omega⟩ hn hnm (h3 m)
  have ha : ∀ m, (exT m (d + 1 + 1)).rep w lo B (Ex.mk aop an aname akids) [.int .i64 aop, .int .i64 an, .string aname, .slice A3 akids.length p3] := fun m => exT_le m (Nat.le_succ _) (ha' m)
  have hb : ∀ m, (exT m (d + 1 + 1)).rep w lo B (Ex.mk bop bn bname bkids) [.int .i64 bop, .int .i64 bn, .string bname, .slice A4 bkids.length p4] := fun m => exT_le m (Nat.le_succ _) (hb' m)
  have ska : Sl false (exS false d) w lo B akids (.slice A3 akids.length p3) := (exT_kids d (ha' false)).exS
  have skb : Sl false (exS false d) w lo B bkids (.slice A4 bkids.length p4) := (exT_kids d (hb' false)).exS
  have h3s : Sl false (exS false (d + 1)) w lo B [(Ex.mk aop an aname akids), (Ex.mk bop bn bname bkids)] (.slice (some ⟨blk, 0, none⟩) 2 p) := (h3 false).exS
  clear ha' hb' h3 HL1 HL2
  obtain ⟨T, hTT⟩ : ∃ T, foldTwo 9 (Ex.mk aop an aname akids) (Ex.mk bop bn bname bkids) (Ex.mk 9 n name [(Ex.mk aop an aname akids), (Ex.mk bop bn bname bkids)]) = T := ⟨_, rfl⟩
  rw [hTT]
  have HTT := Lib.hid hTT
  clear hTT
  have hblk : blk < w.heap.size := by omega
  obtain ⟨vA0, hvA0⟩ : ∃ v, isN (Ex.mk aop an aname akids) 0 = v := ⟨_, rfl⟩
  obtain ⟨vA1, hvA1⟩ : ∃ v, isN (Ex.mk aop an aname akids) 1 = v := ⟨_, rfl⟩
  obtain ⟨vB0, hvB0⟩ : ∃ v, isN (Ex.mk bop bn bname bkids) 0 = v := ⟨_, rfl⟩
  obtain ⟨vB1, hvB1⟩ : ∃ v, isN (Ex.mk bop bn bname bkids) 1 = v := ⟨_, rfl⟩
  obtain ⟨vSA, hvSA⟩ : ∃ v, safeE 6 (Ex.mk aop an aname akids) = v := ⟨_, rfl⟩
  obtain ⟨vSB, hvSB⟩ : ∃ v, safeE 6 (Ex.mk bop bn bname bkids) = v := ⟨_, rfl⟩
  have HA0 := Lib.hid hvA0
  have HA1 := Lib.hid hvA1
  have HB0 := Lib.hid hvB0
  have HB1 := Lib.hid hvB1
  have HSA := Lib.hid hvSA
  have HSB := Lib.hid hvSB
  clear hvA0 hvA1 hvB0 hvB1 hvSA hvSB

  have hw : Below w.heap.size w ((w.alloc (.cells #[.int .i64 9, .int .i64 n, .string name, .slice (some ⟨blk, 0, none⟩) 2 p] 25)).alloc (.cells #[.int .i64 0, .int .i64 0, .string ⟨#[]⟩, .slice none 0 0] 25)) := ((Below.refl _ _).alloc (Nat.le_refl _) _).alloc (by simp) _
  have RE : Row _ w.heap.size 25 #[.int .i64 9, .int .i64 n, .string name, .slice (some ⟨blk, 0, none⟩) 2 p] := (Row.new w _ _).alloc (.cells #[.int .i64 0, .int .i64 0, .string ⟨#[]⟩, .slice none 0 0] 25)
  have RR : Row ((w.alloc (.cells #[.int .i64 9, .int .i64 n, .string name, .slice (some ⟨blk, 0, none⟩) 2 p] 25)).alloc (.cells #[.int .i64 0, .int .i64 0, .string ⟨#[]⟩, .slice none 0 0] 25)) (w.heap.size + 1) 25 #[.int .i64 0, .int .i64 0, .string ⟨#[]⟩, .slice none 0 0] := by simpa using Row.new (w.alloc (.cells #[.int .i64 9, .int .i64 n, .string name, .slice (some ⟨blk, 0, none⟩) 2 p] 25)) 25 #[.int .i64 0, .int .i64 0, .string ⟨#[]⟩, .slice none 0 0]
  go_enter Tryd.func48, Tryd.ntmps48
  go_wp2_with fail
  refine (spec_l1In 9 3 10 _).mono ?_
  rw [show inB 9 3 10 = true from by decide]
  rintro e w5 ⟨rfl, hw5⟩
  rw [hw5] at hw RE RR
  clear hw5
  obtain ⟨k0, k1, k2, k3, k4, k5, k6, k7⟩ := kids8 hw hblk c0 c1 c2 c3 c4 c5 c6 c7
  obtain ⟨z0, z1, z2, z3⟩ := cells4 RE
  have y_6 := (Below.refl _ w5).alloc (Nat.le_refl _) (.cells #[.int .i64 aop, .int .i64 an, .string aname, .slice A3 akids.length p3] 25)
  replace hw := hw.trans (y_6.mono hw.size)
  replace RE := RE.below y_6 RE.lt
  replace RR := RR.below y_6 RR.lt
  have RA : Row _ _ _ #[.int .i64 aop, .int .i64 an, .string aname, .slice A3 akids.length p3] := Row.new w5 25 _
  obtain ⟨l0, l1, l2, l3, l4, l5, l6, l7⟩ := kids8 hw hblk c0 c1 c2 c3 c4 c5 c6 c7
  obtain ⟨t0, t1, t2, t3⟩ := cells4 RE
  have y_7 := (Below.refl _ (w5.alloc (.cells #[.int .i64 aop, .int .i64 an, .string aname, .slice A3 akids.length p3] 25))).alloc (Nat.le_refl _) (.cells #[.int .i64 bop, .int .i64 bn, .string bname, .slice A4 bkids.length p4] 25)
  replace hw := hw.trans (y_7.mono hw.size)
  replace RE := RE.below y_7 RE.lt
  replace RR := RR.below y_7 RR.lt
  replace RA := RA.below y_7 RA.lt
  have RB : Row ((w5.alloc (.cells #[.int .i64 aop, .int .i64 an, .string aname, .slice A3 akids.length p3] 25)).alloc (.cells #[.int .i64 bop, .int .i64 bn, .string bname, .slice A4 bkids.length p4] 25)) (w5.heap.size + 1) 25 #[.int .i64 bop, .int .i64 bn, .string bname, .slice A4 bkids.length p4] := by simpa using Row.new (w5.alloc (.cells #[.int .i64 aop, .int .i64 an, .string aname, .slice A3 akids.length p3] 25)) 25 #[.int .i64 bop, .int .i64 bn, .string bname, .slice A4 bkids.length p4]
  clear c0 c1 c2 c3 c4 c5 c6 c7
  by_cases qa : aop = 1
  case neg =>
   have qa' : (aop == 1) = false := by simpa using qa
   have HN : Hid (numB 9 (Ex.mk aop an aname akids) (Ex.mk bop bn bname bkids) = false) := by show _ = _; simp [numB, Ex.op, qa]
   clear qa
   obtain ⟨y0, y1, y2, y3, y4, y5, y6, y7, y8, y9, ya, yb⟩ := cells12 RE RA RB
   go_wp2_with fail
   refine (spec_l6Is bop bn bname (.slice A4 bkids.length p4) 0 _ bkids ⟨_, _, rfl⟩).mono ?_
   rw [HB0.out]
   rintro e w8 ⟨rfl, x8⟩
   clear y0 y1 y2 y3 y4 y5 y6 y7 y8 y9 ya yb
   replace hw := hw.trans (x8.mono hw.size)
   replace RE := RE.below x8 RE.lt
   replace RR := RR.below x8 RR.lt
   replace RA := RA.below x8 RA.lt
   replace RB := RB.below x8 RB.lt
   cases vB0
   case false =>
    obtain ⟨y0, y1, y2, y3, y4, y5, y6, y7, y8, y9, ya, yb⟩ := cells12 RE RA RB
    go_wp2_with fail
    refine (spec_l6Is bop bn bname (.slice A4 bkids.length p4) 1 _ bkids ⟨_, _, rfl⟩).mono ?_
    rw [HB1.out]
    rintro e w9 ⟨rfl, x9⟩
    clear y0 y1 y2 y3 y4 y5 y6 y7 y8 y9 ya yb
    replace hw := hw.trans (x9.mono hw.size)
    replace RE := RE.below x9 RE.lt
    replace RR := RR.below x9 RR.lt
    replace RA := RA.below x9 RA.lt
    replace RB := RB.below x9 RB.lt
    cases vB1
    case false =>
     obtain ⟨y0, y1, y2, y3, y4, y5, y6, y7, y8, y9, ya, yb⟩ := cells12 RE RA RB
     go_wp2_with fail
     refine (spec_l6Is aop an aname (.slice A3 akids.length p3) 0 _ akids ⟨_, _, rfl⟩).mono ?_
     rw [HA0.out]
     rintro e w10 ⟨rfl, x10⟩
     clear y0 y1 y2 y3 y4 y5 y6 y7 y8 y9 ya yb
     replace hw := hw.trans (x10.mono hw.size)
     replace RE := RE.below x10 RE.lt
     replace RR := RR.below x10 RR.lt
     replace RA := RA.below x10 RA.lt
     replace RB := RB.below x10 RB.lt
     cases vA0
     case false =>
      obtain ⟨y0, y1, y2, y3, y4, y5, y6, y7, y8, y9, ya, yb⟩ := cells12 RE RA RB
      go_wp2_with fail
      refine (spec_l6Is aop an aname (.slice A3 akids.length p3) 1 _ akids ⟨_, _, rfl⟩).mono ?_
      rw [HA1.out]
      rintro e w11 ⟨rfl, x11⟩
      clear y0 y1 y2 y3 y4 y5 y6 y7 y8 y9 ya yb
      replace hw := hw.trans (x11.mono hw.size)
      replace RE := RE.below x11 RE.lt
      replace RR := RR.below x11 RR.lt
      replace RA := RA.below x11 RA.lt
      replace RB := RB.below x11 RB.lt
      cases vA1
      case false =>
       obtain ⟨s0, s1, s2, s3, f0, f1, f2, f3⟩ := cells8 RR
       obtain ⟨y0, y1, y2, y3, y4, y5, y6, y7, y8, y9, ya, yb⟩ := cells12 RE RA RB
       have F := leaf_fin (f := T) hw hB (Nat.le_succ _) RR he (by rw [← HTT.out]; unfold foldTwo; simp [HN.out, HB0.out, HB1.out, HA0.out, HA1.out])
       go_wp2_with fail
       refine bodyPost_ret (by simp [results, Tryd.results48, go_sem, s0, s1, s2, s3]) rfl F.out
      case true =>
       obtain ⟨s0, s1, s2, s3, f0, f1, f2, f3⟩ := cells8 RR
       obtain ⟨y0, y1, y2, y3, y4, y5, y6, y7, y8, y9, ya, yb⟩ := cells12 RE RA RB
       have F := leaf_fin (f := T) hw hB (Nat.le_succ _) RR he (by rw [← HTT.out]; unfold foldTwo; simp [HN.out, HB0.out, HB1.out, HA0.out, HA1.out])
       go_wp2_with fail
       refine bodyPost_ret (by simp [results, Tryd.results48, go_sem, s0, s1, s2, s3]) rfl F.out
     case true =>
      obtain ⟨y0, y1, y2, y3, y4, y5, y6, y7, y8, y9, ya, yb⟩ := cells12 RE RA RB
      go_wp2_with fail
      refine (spec_l6Is aop an aname (.slice A3 akids.length p3) 1 _ akids ⟨_, _, rfl⟩).mono ?_
      rw [HA1.out]
      rintro e w11 ⟨rfl, x11⟩
      clear y0 y1 y2 y3 y4 y5 y6 y7 y8 y9 ya yb
      replace hw := hw.trans (x11.mono hw.size)
      replace RE := RE.below x11 RE.lt
      replace RR := RR.below x11 RR.lt
      replace RA := RA.below x11 RA.lt
      replace RB := RB.below x11 RB.lt
      cases vA1
      case false =>
       obtain ⟨s0, s1, s2, s3, f0, f1, f2, f3⟩ := cells8 RR
       obtain ⟨y0, y1, y2, y3, y4, y5, y6, y7, y8, y9, ya, yb⟩ := cells12 RE RA RB
       have F := leaf_fin (f := T) hw hB (Nat.le_succ _) RR he (by rw [← HTT.out]; unfold foldTwo; simp [HN.out, HB0.out, HB1.out, HA0.out, HA1.out])
       go_wp2_with fail
       refine bodyPost_ret (by simp [results, Tryd.results48, go_sem, s0, s1, s2, s3]) rfl F.out
      case true =>
       obtain ⟨s0, s1, s2, s3, f0, f1, f2, f3⟩ := cells8 RR
       obtain ⟨y0, y1, y2, y3, y4, y5, y6, y7, y8, y9, ya, yb⟩ := cells12 RE RA RB
       have F := leaf_fin (f := T) hw hB (Nat.le_succ _) RR he (by rw [← HTT.out]; unfold foldTwo; simp [HN.out, HB0.out, HB1.out, HA0.out, HA1.out])
       go_wp2_with fail
       refine bodyPost_ret (by simp [results, Tryd.results48, go_sem, s0, s1, s2, s3]) rfl F.out
    case true =>
     obtain ⟨y0, y1, y2, y3, y4, y5, y6, y7, y8, y9, ya, yb⟩ := cells12 RE RA RB
     go_wp2_with fail
     refine (spec_l6Is aop an aname (.slice A3 akids.length p3) 0 _ akids ⟨_, _, rfl⟩).mono ?_
     rw [HA0.out]
     rintro e w10 ⟨rfl, x10⟩
     clear y0 y1 y2 y3 y4 y5 y6 y7 y8 y9 ya yb
     replace hw := hw.trans (x10.mono hw.size)
     replace RE := RE.below x10 RE.lt
     replace RR := RR.below x10 RR.lt
     replace RA := RA.below x10 RA.lt
     replace RB := RB.below x10 RB.lt
     cases vA0
     case false =>
      obtain ⟨y0, y1, y2, y3, y4, y5, y6, y7, y8, y9, ya, yb⟩ := cells12 RE RA RB
      go_wp2_with fail
      refine (spec_l6Is aop an aname (.slice A3 akids.length p3) 1 _ akids ⟨_, _, rfl⟩).mono ?_
      rw [HA1.out]
      rintro e w11 ⟨rfl, x11⟩
      clear y0 y1 y2 y3 y4 y5 y6 y7 y8 y9 ya yb
      replace hw := hw.trans (x11.mono hw.size)
      replace RE := RE.below x11 RE.lt
      replace RR := RR.below x11 RR.lt
      replace RA := RA.below x11 RA.lt
      replace RB := RB.below x11 RB.lt
      cases vA1
      case false =>
       obtain ⟨s0, s1, s2, s3, f0, f1, f2, f3⟩ := cells8 RR
       obtain ⟨y0, y1, y2, y3, y4, y5, y6, y7, y8, y9, ya, yb⟩ := cells12 RE RA RB
       have F := leaf_fin (f := T) hw hB (Nat.le_succ _) RR he (by rw [← HTT.out]; unfold foldTwo; simp [HN.out, HB0.out, HB1.out, HA0.out, HA1.out])
       go_wp2_with fail
       refine bodyPost_ret (by simp [results, Tryd.results48, go_sem, s0, s1, s2, s3]) rfl F.out
      case true =>
       obtain ⟨s0, s1, s2, s3, f0, f1, f2, f3⟩ := cells8 RR
       obtain ⟨y0, y1, y2, y3, y4, y5, y6, y7, y8, y9, ya, yb⟩ := cells12 RE RA RB
       have F := leaf_fin (f := T) hw hB (Nat.le_succ _) RR he (by rw [← HTT.out]; unfold foldTwo; simp [HN.out, HB0.out, HB1.out, HA0.out, HA1.out])
       go_wp2_with fail
       refine bodyPost_ret (by simp [results, Tryd.results48, go_sem, s0, s1, s2, s3]) rfl F.out
     case true =>
      obtain ⟨y0, y1, y2, y3, y4, y5, y6, y7, y8, y9, ya, yb⟩ := cells12 RE RA RB
      go_wp2_with fail
      refine (spec_l6Is aop an aname (.slice A3 akids.length p3) 1 _ akids ⟨_, _, rfl⟩).mono ?_
      rw [HA1.out]
      rintro e w11 ⟨rfl, x11⟩
      clear y0 y1 y2 y3 y4 y5 y6 y7 y8 y9 ya yb
      replace hw := hw.trans (x11.mono hw.size)
      replace RE := RE.below x11 RE.lt
      replace RR := RR.below x11 RR.lt
      replace RA := RA.below x11 RA.lt
      replace RB := RB.below x11 RB.lt
      cases vA1
      case false =>
       obtain ⟨s0, s1, s2, s3, f0, f1, f2, f3⟩ := cells8 RR
       obtain ⟨y0, y1, y2, y3, y4, y5, y6, y7, y8, y9, ya, yb⟩ := cells12 RE RA RB
       have F := leaf_fin (f := T) hw hB (Nat.le_succ _) RR he (by rw [← HTT.out]; unfold foldTwo; simp [HN.out, HB0.out, HB1.out, HA0.out, HA1.out])
       go_wp2_with fail
       refine bodyPost_ret (by simp [results, Tryd.results48, go_sem, s0, s1, s2, s3]) rfl F.out
      case true =>
       obtain ⟨s0, s1, s2, s3, f0, f1, f2, f3⟩ := cells8 RR
       obtain ⟨y0, y1, y2, y3, y4, y5, y6, y7, y8, y9, ya, yb⟩ := cells12 RE RA RB
       have F := leaf_fin (f := T) hw hB (Nat.le_succ _) RR he (by rw [← HTT.out]; unfold foldTwo; simp [HN.out, HB0.out, HB1.out, HA0.out, HA1.out])
       go_wp2_with fail
       refine bodyPost_ret (by simp [results, Tryd.results48, go_sem, s0, s1, s2, s3]) rfl F.out
   case true =>
    obtain ⟨y0, y1, y2, y3, y4, y5, y6, y7, y8, y9, ya, yb⟩ := cells12 RE RA RB
    go_wp2_with fail
    refine (spec_l6Is bop bn bname (.slice A4 bkids.length p4) 1 _ bkids ⟨_, _, rfl⟩).mono ?_
    rw [HB1.out]
    rintro e w9 ⟨rfl, x9⟩
    clear y0 y1 y2 y3 y4 y5 y6 y7 y8 y9 ya yb
    replace hw := hw.trans (x9.mono hw.size)
    replace RE := RE.below x9 RE.lt
    replace RR := RR.below x9 RR.lt
    replace RA := RA.below x9 RA.lt
    replace RB := RB.below x9 RB.lt
    cases vB1
    case false =>
     obtain ⟨y0, y1, y2, y3, y4, y5, y6, y7, y8, y9, ya, yb⟩ := cells12 RE RA RB
     go_wp2_with fail
     refine (spec_l6Is aop an aname (.slice A3 akids.length p3) 0 _ akids ⟨_, _, rfl⟩).mono ?_
     rw [HA0.out]
     rintro e w10 ⟨rfl, x10⟩
     clear y0 y1 y2 y3 y4 y5 y6 y7 y8 y9 ya yb
     replace hw := hw.trans (x10.mono hw.size)
     replace RE := RE.below x10 RE.lt
     replace RR := RR.below x10 RR.lt
     replace RA := RA.below x10 RA.lt
     replace RB := RB.below x10 RB.lt
     cases vA0
     case false =>
      obtain ⟨y0, y1, y2, y3, y4, y5, y6, y7, y8, y9, ya, yb⟩ := cells12 RE RA RB
      go_wp2_with fail
      refine (spec_l6Is aop an aname (.slice A3 akids.length p3) 1 _ akids ⟨_, _, rfl⟩).mono ?_
      rw [HA1.out]
      rintro e w11 ⟨rfl, x11⟩
      clear y0 y1 y2 y3 y4 y5 y6 y7 y8 y9 ya yb
      replace hw := hw.trans (x11.mono hw.size)
      replace RE := RE.below x11 RE.lt
      replace RR := RR.below x11 RR.lt
      replace RA := RA.below x11 RA.lt
      replace RB := RB.below x11 RB.lt
      cases vA1
      case false =>
       obtain ⟨s0, s1, s2, s3, f0, f1, f2, f3⟩ := cells8 RR
       obtain ⟨y0, y1, y2, y3, y4, y5, y6, y7, y8, y9, ya, yb⟩ := cells12 RE RA RB
       have F := leaf_fin (f := T) hw hB (Nat.le_succ _) RR he (by rw [← HTT.out]; unfold foldTwo; simp [HN.out, HB0.out, HB1.out, HA0.out, HA1.out])
       go_wp2_with fail
       refine bodyPost_ret (by simp [results, Tryd.results48, go_sem, s0, s1, s2, s3]) rfl F.out
      case true =>
       obtain ⟨s0, s1, s2, s3, f0, f1, f2, f3⟩ := cells8 RR
       obtain ⟨y0, y1, y2, y3, y4, y5, y6, y7, y8, y9, ya, yb⟩ := cells12 RE RA RB
       have F := leaf_fin (f := T) hw hB (Nat.le_succ _) RR he (by rw [← HTT.out]; unfold foldTwo; simp [HN.out, HB0.out, HB1.out, HA0.out, HA1.out])
       go_wp2_with fail
       refine bodyPost_ret (by simp [results, Tryd.results48, go_sem, s0, s1, s2, s3]) rfl F.out
     case true =>
      obtain ⟨y0, y1, y2, y3, y4, y5, y6, y7, y8, y9, ya, yb⟩ := cells12 RE RA RB
      go_wp2_with fail
      refine (spec_l6Is aop an aname (.slice A3 akids.length p3) 1 _ akids ⟨_, _, rfl⟩).mono ?_
      rw [HA1.out]
      rintro e w11 ⟨rfl, x11⟩
      clear y0 y1 y2 y3 y4 y5 y6 y7 y8 y9 ya yb
      replace hw := hw.trans (x11.mono hw.size)
      replace RE := RE.below x11 RE.lt
      replace RR := RR.below x11 RR.lt
      replace RA := RA.below x11 RA.lt
      replace RB := RB.below x11 RB.lt
      cases vA1
      case false =>
       obtain ⟨s0, s1, s2, s3, f0, f1, f2, f3⟩ := cells8 RR
       obtain ⟨y0, y1, y2, y3, y4, y5, y6, y7, y8, y9, ya, yb⟩ := cells12 RE RA RB
       have F := leaf_fin (f := T) hw hB (Nat.le_succ _) RR he (by rw [← HTT.out]; unfold foldTwo; simp [HN.out, HB0.out, HB1.out, HA0.out, HA1.out])
       go_wp2_with fail
       refine bodyPost_ret (by simp [results, Tryd.results48, go_sem, s0, s1, s2, s3]) rfl F.out
      case true =>
       obtain ⟨s0, s1, s2, s3, f0, f1, f2, f3⟩ := cells8 RR
       obtain ⟨y0, y1, y2, y3, y4, y5, y6, y7, y8, y9, ya, yb⟩ := cells12 RE RA RB
       have F := leaf_fin (f := T) hw hB (Nat.le_succ _) RR he (by rw [← HTT.out]; unfold foldTwo; simp [HN.out, HB0.out, HB1.out, HA0.out, HA1.out])
       go_wp2_with fail
       refine bodyPost_ret (by simp [results, Tryd.results48, go_sem, s0, s1, s2, s3]) rfl F.out
    case true =>
     obtain ⟨y0, y1, y2, y3, y4, y5, y6, y7, y8, y9, ya, yb⟩ := cells12 RE RA RB
     go_wp2_with fail
     refine (spec_l6Is aop an aname (.slice A3 akids.length p3) 0 _ akids ⟨_, _, rfl⟩).mono ?_
     rw [HA0.out]
     rintro e w10 ⟨rfl, x10⟩
     clear y0 y1 y2 y3 y4 y5 y6 y7 y8 y9 ya yb
     replace hw := hw.trans (x10.mono hw.size)
     replace RE := RE.below x10 RE.lt
     replace RR := RR.below x10 RR.lt
     replace RA := RA.below x10 RA.lt
     replace RB := RB.below x10 RB.lt
     cases vA0
     case false =>
      obtain ⟨y0, y1, y2, y3, y4, y5, y6, y7, y8, y9, ya, yb⟩ := cells12 RE RA RB
      go_wp2_with fail
      refine (spec_l6Is aop an aname (.slice A3 akids.length p3) 1 _ akids ⟨_, _, rfl⟩).mono ?_
      rw [HA1.out]
      rintro e w11 ⟨rfl, x11⟩
      clear y0 y1 y2 y3 y4 y5 y6 y7 y8 y9 ya yb
      replace hw := hw.trans (x11.mono hw.size)
      replace RE := RE.below x11 RE.lt
      replace RR := RR.below x11 RR.lt
      replace RA := RA.below x11 RA.lt
      replace RB := RB.below x11 RB.lt
      cases vA1
      case false =>
       obtain ⟨s0, s1, s2, s3, f0, f1, f2, f3⟩ := cells8 RR
       obtain ⟨y0, y1, y2, y3, y4, y5, y6, y7, y8, y9, ya, yb⟩ := cells12 RE RA RB
       have F := leaf_fin (f := T) hw hB (Nat.le_succ _) RR he (by rw [← HTT.out]; unfold foldTwo; simp [HN.out, HB0.out, HB1.out, HA0.out, HA1.out])
       go_wp2_with fail
       refine bodyPost_ret (by simp [results, Tryd.results48, go_sem, s0, s1, s2, s3]) rfl F.out
      case true =>
       obtain ⟨s0, s1, s2, s3, f0, f1, f2, f3⟩ := cells8 RR
       obtain ⟨y0, y1, y2, y3, y4, y5, y6, y7, y8, y9, ya, yb⟩ := cells12 RE RA RB
       have F := leaf_fin (f := T) hw hB (Nat.le_succ _) RR he (by rw [← HTT.out]; unfold foldTwo; simp [HN.out, HB0.out, HB1.out, HA0.out, HA1.out])
       go_wp2_with fail
       refine bodyPost_ret (by simp [results, Tryd.results48, go_sem, s0, s1, s2, s3]) rfl F.out
     case true =>
      obtain ⟨y0, y1, y2, y3, y4, y5, y6, y7, y8, y9, ya, yb⟩ := cells12 RE RA RB
      go_wp2_with fail
      refine (spec_l6Is aop an aname (.slice A3 akids.length p3) 1 _ akids ⟨_, _, rfl⟩).mono ?_
      rw [HA1.out]
      rintro e w11 ⟨rfl, x11⟩
      clear y0 y1 y2 y3 y4 y5 y6 y7 y8 y9 ya yb
      replace hw := hw.trans (x11.mono hw.size)
      replace RE := RE.below x11 RE.lt
      replace RR := RR.below x11 RR.lt
      replace RA := RA.below x11 RA.lt
      replace RB := RB.below x11 RB.lt
      cases vA1
      case false =>
       obtain ⟨s0, s1, s2, s3, f0, f1, f2, f3⟩ := cells8 RR
       obtain ⟨y0, y1, y2, y3, y4, y5, y6, y7, y8, y9, ya, yb⟩ := cells12 RE RA RB
       have F := leaf_fin (f := T) hw hB (Nat.le_succ _) RR he (by rw [← HTT.out]; unfold foldTwo; simp [HN.out, HB0.out, HB1.out, HA0.out, HA1.out])
       go_wp2_with fail
       refine bodyPost_ret (by simp [results, Tryd.results48, go_sem, s0, s1, s2, s3]) rfl F.out
      case true =>
       obtain ⟨s0, s1, s2, s3, f0, f1, f2, f3⟩ := cells8 RR
       obtain ⟨y0, y1, y2, y3, y4, y5, y6, y7, y8, y9, ya, yb⟩ := cells12 RE RA RB
       have F := leaf_fin (f := T) hw hB (Nat.le_succ _) RR he (by rw [← HTT.out]; unfold foldTwo; simp [HN.out, HB0.out, HB1.out, HA0.out, HA1.out])
       go_wp2_with fail
       refine bodyPost_ret (by simp [results, Tryd.results48, go_sem, s0, s1, s2, s3]) rfl F.out
  by_cases qb : bop = 1
  case neg =>
   have qb' : (bop == 1) = false := by simpa using qb
   have HN : Hid (numB 9 (Ex.mk aop an aname akids) (Ex.mk bop bn bname bkids) = false) := by show _ = _; simp [numB, Ex.op, qb]
   subst qa
   clear qb
   obtain ⟨y0, y1, y2, y3, y4, y5, y6, y7, y8, y9, ya, yb⟩ := cells12 RE RA RB
   go_wp2_with fail
   refine (spec_l6Is bop bn bname (.slice A4 bkids.length p4) 0 _ bkids ⟨_, _, rfl⟩).mono ?_
   rw [HB0.out]
   rintro e w8 ⟨rfl, x8⟩
   clear y0 y1 y2 y3 y4 y5 y6 y7 y8 y9 ya yb
   replace hw := hw.trans (x8.mono hw.size)
   replace RE := RE.below x8 RE.lt
   replace RR := RR.below x8 RR.lt
   replace RA := RA.below x8 RA.lt
   replace RB := RB.below x8 RB.lt
   cases vB0
   case false =>
    obtain ⟨y0, y1, y2, y3, y4, y5, y6, y7, y8, y9, ya, yb⟩ := cells12 RE RA RB
    go_wp2_with fail
    refine (spec_l6Is bop bn bname (.slice A4 bkids.length p4) 1 _ bkids ⟨_, _, rfl⟩).mono ?_
    rw [HB1.out]
    rintro e w9 ⟨rfl, x9⟩
    clear y0 y1 y2 y3 y4 y5 y6 y7 y8 y9 ya yb
    replace hw := hw.trans (x9.mono hw.size)
    replace RE := RE.below x9 RE.lt
    replace RR := RR.below x9 RR.lt
    replace RA := RA.below x9 RA.lt
    replace RB := RB.below x9 RB.lt
    cases vB1
    case false =>
     obtain ⟨y0, y1, y2, y3, y4, y5, y6, y7, y8, y9, ya, yb⟩ := cells12 RE RA RB
     go_wp2_with fail
     refine (spec_l6Is 1 an aname (.slice A3 akids.length p3) 0 _ akids ⟨_, _, rfl⟩).mono ?_
     rw [HA0.out]
     rintro e w10 ⟨rfl, x10⟩
     clear y0 y1 y2 y3 y4 y5 y6 y7 y8 y9 ya yb
     replace hw := hw.trans (x10.mono hw.size)
     replace RE := RE.below x10 RE.lt
     replace RR := RR.below x10 RR.lt
     replace RA := RA.below x10 RA.lt
     replace RB := RB.below x10 RB.lt
     cases vA0
     case false =>
      obtain ⟨y0, y1, y2, y3, y4, y5, y6, y7, y8, y9, ya, yb⟩ := cells12 RE RA RB
      go_wp2_with fail
      refine (spec_l6Is 1 an aname (.slice A3 akids.length p3) 1 _ akids ⟨_, _, rfl⟩).mono ?_
      rw [HA1.out]
      rintro e w11 ⟨rfl, x11⟩
      clear y0 y1 y2 y3 y4 y5 y6 y7 y8 y9 ya yb
      replace hw := hw.trans (x11.mono hw.size)
      replace RE := RE.below x11 RE.lt
      replace RR := RR.below x11 RR.lt
      replace RA := RA.below x11 RA.lt
      replace RB := RB.below x11 RB.lt
      cases vA1
      case false =>
       obtain ⟨s0, s1, s2, s3, f0, f1, f2, f3⟩ := cells8 RR
       obtain ⟨y0, y1, y2, y3, y4, y5, y6, y7, y8, y9, ya, yb⟩ := cells12 RE RA RB
       have F := leaf_fin (f := T) hw hB (Nat.le_succ _) RR he (by rw [← HTT.out]; unfold foldTwo; simp [HN.out, HB0.out, HB1.out, HA0.out, HA1.out])
       go_wp2_with fail
       refine bodyPost_ret (by simp [results, Tryd.results48, go_sem, s0, s1, s2, s3]) rfl F.out
      case true =>
       obtain ⟨s0, s1, s2, s3, f0, f1, f2, f3⟩ := cells8 RR
       obtain ⟨y0, y1, y2, y3, y4, y5, y6, y7, y8, y9, ya, yb⟩ := cells12 RE RA RB
       have F := leaf_fin (f := T) hw hB (Nat.le_succ _) RR he (by rw [← HTT.out]; unfold foldTwo; simp [HN.out, HB0.out, HB1.out, HA0.out, HA1.out])
       go_wp2_with fail
       refine bodyPost_ret (by simp [results, Tryd.results48, go_sem, s0, s1, s2, s3]) rfl F.out
     case true =>
      obtain ⟨y0, y1, y2, y3, y4, y5, y6, y7, y8, y9, ya, yb⟩ := cells12 RE RA RB
      go_wp2_with fail
      refine (spec_l6Is 1 an aname (.slice A3 akids.length p3) 1 _ akids ⟨_, _, rfl⟩).mono ?_
      rw [HA1.out]
      rintro e w11 ⟨rfl, x11⟩
      clear y0 y1 y2 y3 y4 y5 y6 y7 y8 y9 ya yb
      replace hw := hw.trans (x11.mono hw.size)
      replace RE := RE.below x11 RE.lt
      replace RR := RR.below x11 RR.lt
      replace RA := RA.below x11 RA.lt
      replace RB := RB.below x11 RB.lt
      cases vA1
      case false =>
       obtain ⟨s0, s1, s2, s3, f0, f1, f2, f3⟩ := cells8 RR
       obtain ⟨y0, y1, y2, y3, y4, y5, y6, y7, y8, y9, ya, yb⟩ := cells12 RE RA RB
       have F := leaf_fin (f := T) hw hB (Nat.le_succ _) RR he (by rw [← HTT.out]; unfold foldTwo; simp [HN.out, HB0.out, HB1.out, HA0.out, HA1.out])
       go_wp2_with fail
       refine bodyPost_ret (by simp [results, Tryd.results48, go_sem, s0, s1, s2, s3]) rfl F.out
      case true =>
       obtain ⟨s0, s1, s2, s3, f0, f1, f2, f3⟩ := cells8 RR
       obtain ⟨y0, y1, y2, y3, y4, y5, y6, y7, y8, y9, ya, yb⟩ := cells12 RE RA RB
       have F := leaf_fin (f := T) hw hB (Nat.le_succ _) RR he (by rw [← HTT.out]; unfold foldTwo; simp [HN.out, HB0.out, HB1.out, HA0.out, HA1.out])
       go_wp2_with fail
       refine bodyPost_ret (by simp [results, Tryd.results48, go_sem, s0, s1, s2, s3]) rfl F.out
    case true =>
     obtain ⟨y0, y1, y2, y3, y4, y5, y6, y7, y8, y9, ya, yb⟩ := cells12 RE RA RB
     go_wp2_with fail
     refine (spec_l6Is 1 an aname (.slice A3 akids.length p3) 0 _ akids ⟨_, _, rfl⟩).mono ?_
     rw [HA0.out]
     rintro e w10 ⟨rfl, x10⟩
     clear y0 y1 y2 y3 y4 y5 y6 y7 y8 y9 ya yb
     replace hw := hw.trans (x10.mono hw.size)
     replace RE := RE.below x10 RE.lt
     replace RR := RR.below x10 RR.lt
     replace RA := RA.below x10 RA.lt
     replace RB := RB.below x10 RB.lt
     cases vA0
     case false =>
      obtain ⟨y0, y1, y2, y3, y4, y5, y6, y7, y8, y9, ya, yb⟩ := cells12 RE RA RB
      go_wp2_with fail
      refine (spec_l6Is 1 an aname (.slice A3 akids.length p3) 1 _ akids ⟨_, _, rfl⟩).mono ?_
      rw [HA1.out]
      rintro e w11 ⟨rfl, x11⟩
      clear y0 y1 y2 y3 y4 y5 y6 y7 y8 y9 ya yb
      replace hw := hw.trans (x11.mono hw.size)
      replace RE := RE.below x11 RE.lt
      replace RR := RR.below x11 RR.lt
      replace RA := RA.below x11 RA.lt
      replace RB := RB.below x11 RB.lt
      cases vA1
      case false =>
       obtain ⟨s0, s1, s2, s3, f0, f1, f2, f3⟩ := cells8 RR
       obtain ⟨y0, y1, y2, y3, y4, y5, y6, y7, y8, y9, ya, yb⟩ := cells12 RE RA RB
       have F := leaf_fin (f := T) hw hB (Nat.le_succ _) RR he (by rw [← HTT.out]; unfold foldTwo; simp [HN.out, HB0.out, HB1.out, HA0.out, HA1.out])
       go_wp2_with fail
       refine bodyPost_ret (by simp [results, Tryd.results48, go_sem, s0, s1, s2, s3]) rfl F.out
      case true =>
       obtain ⟨s0, s1, s2, s3, f0, f1, f2, f3⟩ := cells8 RR
       obtain ⟨y0, y1, y2, y3, y4, y5, y6, y7, y8, y9, ya, yb⟩ := cells12 RE RA RB
       have F := leaf_fin (f := T) hw hB (Nat.le_succ _) RR he (by rw [← HTT.out]; unfold foldTwo; simp [HN.out, HB0.out, HB1.out, HA0.out, HA1.out])
       go_wp2_with fail
       refine bodyPost_ret (by simp [results, Tryd.results48, go_sem, s0, s1, s2, s3]) rfl F.out
     case true =>
      obtain ⟨y0, y1, y2, y3, y4, y5, y6, y7, y8, y9, ya, yb⟩ := cells12 RE RA RB
      go_wp2_with fail
      refine (spec_l6Is 1 an aname (.slice A3 akids.length p3) 1 _ akids ⟨_, _, rfl⟩).mono ?_
      rw [HA1.out]
      rintro e w11 ⟨rfl, x11⟩
      clear y0 y1 y2 y3 y4 y5 y6 y7 y8 y9 ya yb
      replace hw := hw.trans (x11.mono hw.size)
      replace RE := RE.below x11 RE.lt
      replace RR := RR.below x11 RR.lt
      replace RA := RA.below x11 RA.lt
      replace RB := RB.below x11 RB.lt
      cases vA1
      case false =>
       obtain ⟨s0, s1, s2, s3, f0, f1, f2, f3⟩ := cells8 RR
       obtain ⟨y0, y1, y2, y3, y4, y5, y6, y7, y8, y9, ya, yb⟩ := cells12 RE RA RB
       have F := leaf_fin (f := T) hw hB (Nat.le_succ _) RR he (by rw [← HTT.out]; unfold foldTwo; simp [HN.out, HB0.out, HB1.out, HA0.out, HA1.out])
       go_wp2_with fail
       refine bodyPost_ret (by simp [results, Tryd.results48, go_sem, s0, s1, s2, s3]) rfl F.out
      case true =>
       obtain ⟨s0, s1, s2, s3, f0, f1, f2, f3⟩ := cells8 RR
       obtain ⟨y0, y1, y2, y3, y4, y5, y6, y7, y8, y9, ya, yb⟩ := cells12 RE RA RB
       have F := leaf_fin (f := T) hw hB (Nat.le_succ _) RR he (by rw [← HTT.out]; unfold foldTwo; simp [HN.out, HB0.out, HB1.out, HA0.out, HA1.out])
       go_wp2_with fail
       refine bodyPost_ret (by simp [results, Tryd.results48, go_sem, s0, s1, s2, s3]) rfl F.out
   case true =>
    obtain ⟨y0, y1, y2, y3, y4, y5, y6, y7, y8, y9, ya, yb⟩ := cells12 RE RA RB
    go_wp2_with fail
    refine (spec_l6Is bop bn bname (.slice A4 bkids.length p4) 1 _ bkids ⟨_, _, rfl⟩).mono ?_
    rw [HB1.out]
    rintro e w9 ⟨rfl, x9⟩
    clear y0 y1 y2 y3 y4 y5 y6 y7 y8 y9 ya yb
    replace hw := hw.trans (x9.mono hw.size)
    replace RE := RE.below x9 RE.lt
    replace RR := RR.below x9 RR.lt
    replace RA := RA.below x9 RA.lt
    replace RB := RB.below x9 RB.lt
    cases vB1
    case false =>
     obtain ⟨y0, y1, y2, y3, y4, y5, y6, y7, y8, y9, ya, yb⟩ := cells12 RE RA RB
     go_wp2_with fail
     refine (spec_l6Is 1 an aname (.slice A3 akids.length p3) 0 _ akids ⟨_, _, rfl⟩).mono ?_
     rw [HA0.out]
     rintro e w10 ⟨rfl, x10⟩
     clear y0 y1 y2 y3 y4 y5 y6 y7 y8 y9 ya yb
     replace hw := hw.trans (x10.mono hw.size)
     replace RE := RE.below x10 RE.lt
     replace RR := RR.below x10 RR.lt
     replace RA := RA.below x10 RA.lt
     replace RB := RB.below x10 RB.lt
     cases vA0
     case false =>
      obtain ⟨y0, y1, y2, y3, y4, y5, y6, y7, y8, y9, ya, yb⟩ := cells12 RE RA RB
      go_wp2_with fail
      refine (spec_l6Is 1 an aname (.slice A3 akids.length p3) 1 _ akids ⟨_, _, rfl⟩).mono ?_
      rw [HA1.out]
      rintro e w11 ⟨rfl, x11⟩
      clear y0 y1 y2 y3 y4 y5 y6 y7 y8 y9 ya yb
      replace hw := hw.trans (x11.mono hw.size)
      replace RE := RE.below x11 RE.lt
      replace RR := RR.below x11 RR.lt
      replace RA := RA.below x11 RA.lt
      replace RB := RB.below x11 RB.lt
      cases vA1
      case false =>
       obtain ⟨s0, s1, s2, s3, f0, f1, f2, f3⟩ := cells8 RR
       obtain ⟨y0, y1, y2, y3, y4, y5, y6, y7, y8, y9, ya, yb⟩ := cells12 RE RA RB
       have F := leaf_fin (f := T) hw hB (Nat.le_succ _) RR he (by rw [← HTT.out]; unfold foldTwo; simp [HN.out, HB0.out, HB1.out, HA0.out, HA1.out])
       go_wp2_with fail
       refine bodyPost_ret (by simp [results, Tryd.results48, go_sem, s0, s1, s2, s3]) rfl F.out
      case true =>
       obtain ⟨s0, s1, s2, s3, f0, f1, f2, f3⟩ := cells8 RR
       obtain ⟨y0, y1, y2, y3, y4, y5, y6, y7, y8, y9, ya, yb⟩ := cells12 RE RA RB
       have F := leaf_fin (f := T) hw hB (Nat.le_succ _) RR he (by rw [← HTT.out]; unfold foldTwo; simp [HN.out, HB0.out, HB1.out, HA0.out, HA1.out])
       go_wp2_with fail
       refine bodyPost_ret (by simp [results, Tryd.results48, go_sem, s0, s1, s2, s3]) rfl F.out
     case true =>
      obtain ⟨y0, y1, y2, y3, y4, y5, y6, y7, y8, y9, ya, yb⟩ := cells12 RE RA RB
      go_wp2_with fail
      refine (spec_l6Is 1 an aname (.slice A3 akids.length p3) 1 _ akids ⟨_, _, rfl⟩).mono ?_
      rw [HA1.out]
      rintro e w11 ⟨rfl, x11⟩
      clear y0 y1 y2 y3 y4 y5 y6 y7 y8 y9 ya yb
      replace hw := hw.trans (x11.mono hw.size)
      replace RE := RE.below x11 RE.lt
      replace RR := RR.below x11 RR.lt
      replace RA := RA.below x11 RA.lt
      replace RB := RB.below x11 RB.lt
      cases vA1
      case false =>
       obtain ⟨s0, s1, s2, s3, f0, f1, f2, f3⟩ := cells8 RR
       obtain ⟨y0, y1, y2, y3, y4, y5, y6, y7, y8, y9, ya, yb⟩ := cells12 RE RA RB
       have F := leaf_fin (f := T) hw hB (Nat.le_succ _) RR he (by rw [← HTT.out]; unfold foldTwo; simp [HN.out, HB0.out, HB1.out, HA0.out, HA1.out])
       go_wp2_with fail
       refine bodyPost_ret (by simp [results, Tryd.results48, go_sem, s0, s1, s2, s3]) rfl F.out
      case true =>
       obtain ⟨s0, s1, s2, s3, f0, f1, f2, f3⟩ := cells8 RR
       obtain ⟨y0, y1, y2, y3, y4, y5, y6, y7, y8, y9, ya, yb⟩ := cells12 RE RA RB
       have F := leaf_fin (f := T) hw hB (Nat.le_succ _) RR he (by rw [← HTT.out]; unfold foldTwo; simp [HN.out, HB0.out, HB1.out, HA0.out, HA1.out])
       go_wp2_with fail
       refine bodyPost_ret (by simp [results, Tryd.results48, go_sem, s0, s1, s2, s3]) rfl F.out
    case true =>
     obtain ⟨y0, y1, y2, y3, y4, y5, y6, y7, y8, y9, ya, yb⟩ := cells12 RE RA RB
     go_wp2_with fail
     refine (spec_l6Is 1 an aname (.slice A3 akids.length p3) 0 _ akids ⟨_, _, rfl⟩).mono ?_
     rw [HA0.out]
     rintro e w10 ⟨rfl, x10⟩
     clear y0 y1 y2 y3 y4 y5 y6 y7 y8 y9 ya yb
     replace hw := hw.trans (x10.mono hw.size)
     replace RE := RE.below x10 RE.lt
     replace RR := RR.below x10 RR.lt
     replace RA := RA.below x10 RA.lt
     replace RB := RB.below x10 RB.lt
     cases vA0
     case false =>
      obtain ⟨y0, y1, y2, y3, y4, y5, y6, y7, y8, y9, ya, yb⟩ := cells12 RE RA RB
      go_wp2_with fail
      refine (spec_l6Is 1 an aname (.slice A3 akids.length p3) 1 _ akids ⟨_, _, rfl⟩).mono ?_
      rw [HA1.out]
      rintro e w11 ⟨rfl, x11⟩
      clear y0 y1 y2 y3 y4 y5 y6 y7 y8 y9 ya yb
      replace hw := hw.trans (x11.mono hw.size)
      replace RE := RE.below x11 RE.lt
      replace RR := RR.below x11 RR.lt
      replace RA := RA.below x11 RA.lt
      replace RB := RB.below x11 RB.lt
      cases vA1
      case false =>
       obtain ⟨s0, s1, s2, s3, f0, f1, f2, f3⟩ := cells8 RR
       obtain ⟨y0, y1, y2, y3, y4, y5, y6, y7, y8, y9, ya, yb⟩ := cells12 RE RA RB
       have F := leaf_fin (f := T) hw hB (Nat.le_succ _) RR he (by rw [← HTT.out]; unfold foldTwo; simp [HN.out, HB0.out, HB1.out, HA0.out, HA1.out])
       go_wp2_with fail
       refine bodyPost_ret (by simp [results, Tryd.results48, go_sem, s0, s1, s2, s3]) rfl F.out
      case true =>
       obtain ⟨s0, s1, s2, s3, f0, f1, f2, f3⟩ := cells8 RR
       obtain ⟨y0, y1, y2, y3, y4, y5, y6, y7, y8, y9, ya, yb⟩ := cells12 RE RA RB
       have F := leaf_fin (f := T) hw hB (Nat.le_succ _) RR he (by rw [← HTT.out]; unfold foldTwo; simp [HN.out, HB0.out, HB1.out, HA0.out, HA1.out])
       go_wp2_with fail
       refine bodyPost_ret (by simp [results, Tryd.results48, go_sem, s0, s1, s2, s3]) rfl F.out
     case true =>
      obtain ⟨y0, y1, y2, y3, y4, y5, y6, y7, y8, y9, ya, yb⟩ := cells12 RE RA RB
      go_wp2_with fail
      refine (spec_l6Is 1 an aname (.slice A3 akids.length p3) 1 _ akids ⟨_, _, rfl⟩).mono ?_
      rw [HA1.out]
      rintro e w11 ⟨rfl, x11⟩
      clear y0 y1 y2 y3 y4 y5 y6 y7 y8 y9 ya yb
      replace hw := hw.trans (x11.mono hw.size)
      replace RE := RE.below x11 RE.lt
      replace RR := RR.below x11 RR.lt
      replace RA := RA.below x11 RA.lt
      replace RB := RB.below x11 RB.lt
      cases vA1
      case false =>
       obtain ⟨s0, s1, s2, s3, f0, f1, f2, f3⟩ := cells8 RR
       obtain ⟨y0, y1, y2, y3, y4, y5, y6, y7, y8, y9, ya, yb⟩ := cells12 RE RA RB
       have F := leaf_fin (f := T) hw hB (Nat.le_succ _) RR he (by rw [← HTT.out]; unfold foldTwo; simp [HN.out, HB0.out, HB1.out, HA0.out, HA1.out])
       go_wp2_with fail
       refine bodyPost_ret (by simp [results, Tryd.results48, go_sem, s0, s1, s2, s3]) rfl F.out
      case true =>
       obtain ⟨s0, s1, s2, s3, f0, f1, f2, f3⟩ := cells8 RR
       obtain ⟨y0, y1, y2, y3, y4, y5, y6, y7, y8, y9, ya, yb⟩ := cells12 RE RA RB
       have F := leaf_fin (f := T) hw hB (Nat.le_succ _) RR he (by rw [← HTT.out]; unfold foldTwo; simp [HN.out, HB0.out, HB1.out, HA0.out, HA1.out])
       go_wp2_with fail
       refine bodyPost_ret (by simp [results, Tryd.results48, go_sem, s0, s1, s2, s3]) rfl F.out
  subst qa qb
  obtain ⟨an0, an1⟩ := ra rfl
  obtain ⟨bn0, bn1⟩ := rb rfl
  clear ra rb
  have hv : (arV 9 an bn).2 = true := by simp [arV]
  have HN : Hid (numB 9 (Ex.mk 1 an aname akids) (Ex.mk 1 bn bname bkids) = true) := by show _ = _; simp [numB, Ex.op, Ex.n, hv]
  have HV := Lib.hid (show endC (arV 9 an bn).2 = 0 by rw [hv]; rfl)
  have hI : I64 (arV 9 an bn).1 := by
    have := arV_range (op := 9) an0 an1 bn0 bn1
    exact ⟨by omega, by omega⟩
  clear hv
  obtain ⟨y0, y1, y2, y3, y4, y5, y6, y7, y8, y9, ya, yb⟩ := cells12 RE RA RB
  go_wp2_with fail
  refine (spec_l5Eval_two (d + 1) 9 n name [(Ex.mk 1 an aname akids), (Ex.mk 1 bn bname bkids)] _ p _ lo B an bn aname bname akids bkids (Nat.le_trans hB hw.size) (h3s.below hw hB) rfl an0 an1 bn0 bn1 (by omega) (by omega)).mono ?_
  rw [HV.out]
  rintro e w8 ⟨rfl, x8⟩
  clear y0 y1 y2 y3 y4 y5 y6 y7 y8 y9 ya yb
  replace hw := hw.trans (x8.mono hw.size)
  replace RE := RE.below x8 RE.lt
  replace RR := RR.below x8 RR.lt
  replace RA := RA.below x8 RA.lt
  replace RB := RB.below x8 RB.lt
  obtain ⟨y0, y1, y2, y3, y4, y5, y6, y7, y8, y9, ya, yb⟩ := cells12 RE RA RB
  go_wp2_with fail
  refine (spec_num (d + 1) ((arV 9 an bn).1) _ hI).mono ?_
  rintro e w9 ⟨An, cn, rfl, hnr, x9⟩
  clear y0 y1 y2 y3 y4 y5 y6 y7 y8 y9 ya yb
  replace hw := hw.trans (x9.mono hw.size)
  replace RE := RE.below x9 RE.lt
  replace RR := RR.below x9 RR.lt
  replace RA := RA.below x9 RA.lt
  replace RB := RB.below x9 RB.lt
  obtain ⟨s0, s1, s2, s3, f0, f1, f2, f3⟩ := cells8 RR
  obtain ⟨y0, y1, y2, y3, y4, y5, y6, y7, y8, y9, ya, yb⟩ := cells12 RE RA RB
  have F := leaf_fin (f := T) hw hB (Nat.le_succ _) RR (hnr w lo B) (show T = exN1 ((arV 9 an bn).1) by rw [← HTT.out]; unfold foldTwo; rw [if_pos HN.out]; rfl)
  go_wp2_with fail
  refine bodyPost_ret (by simp [results, Tryd.results48, go_sem, s0, s1, s2, s3]) rfl F.out
end Go.Proofs.YthfinoapfbhgcaaDoor

namespace Go.Proofs.YthfinoapfbhgcaaDoor
open Go.RowKit Go.ChangeShapes Go.WideShapes Go.Deep
set_option linter.unusedVariables false
set_option linter.unusedSimpArgs false
set_option maxRecDepth 100000 in
set_option maxHeartbeats 16000000 in
theorem spec_l6Part_10 (d : Nat) (n : Int) (name : ByteArray) (aop an : Int) (aname : ByteArray) (akids : List Ex) (bop bn : Int) (bname : ByteArray) (bkids : List Ex) (A : Option Addr) (p : Nat) (w : World) (lo B : Nat) (hB : B ≤ w.heap.size) (hn : I64 n) (hnm : name.size ≤ maxLen)
    (h3 : ∀ m, SlT m (exT m (d + 1)) w lo B [.mk aop an aname akids, .mk bop bn bname bkids] (.slice A 2 p)) (ra : aop = 1 → 0 ≤ an ∧ an ≤ 255) (rb : bop = 1 → 0 ≤ bn ∧ bn ≤ 255) (fa : formB 6 (.mk aop an aname akids) = true) (fb : formB 6 (.mk bop bn bname bkids) = true) :
    Calls Tryd.prog 48 #[.agg #[.int .i64 10, .int .i64 n, .string name, .slice A 2 p]] w (FoldRP (d + 1) (foldTwo 10 (Ex.mk aop an aname akids) (Ex.mk bop bn bname bkids) (Ex.mk 10 n name [(Ex.mk aop an aname akids), (Ex.mk bop bn bname bkids)])) lo B w) := by
  obtain ⟨blk, op1, n1, nm1, k1, A3, p3, rfl, hlb, hbB, HL1, oa, na, sa, ha', c0, c1, c2, c3⟩ := exT_get d h3 (show 0 < 2 by omega)
  have e1 := HL1.out
  injection e1 with e1 e2 e3 e4
  subst e1 e2 e3 e4
  obtain ⟨blk', op2, n2, nm2, k2, A4, p4, hA, _, _, HL2, ob, nb, sb, hb', c4, c5, c6, c7⟩ := exT_get d h3 (show 1 < 2 by omega)
  injection hA with hA
  injection hA with hA
  subst hA
  have e1 := HL2.out
  injection e1 with e1 e2 e3 e4
  subst e1 e2 e3 e4
  have he : ∀ m, (exT m (d + 1 + 1)).rep w lo B (Ex.mk 10 n name [(Ex.mk aop an aname akids), (Ex.mk bop bn bname bkids)]) [.int .i64 10, .int .i64 n, .string name, .slice (some ⟨blk, 0, none⟩) 2 p] := fun m => exT_mk m (d + 1) 10 n name _ _ ⟨by omega, by omega⟩ hn hnm (h3 m)
  have ha : ∀ m, (exT m (d + 1 + 1)).rep w lo B (Ex.mk aop an aname akids) [.int .i64 aop, .int .i64 an, .string aname, .slice A3 akids.length p3] := fun m => exT_le m (Nat.le_succ _) (ha' m)
  have hb : ∀ m, (exT m (d + 1 + 1)).rep w lo B (Ex.mk bop bn bname bkids) [.int .i64 bop, .int .i64 bn, .string bname, .slice A4 bkids.length p4] := fun m => exT_le m (Nat.le_succ _) (hb' m)
  have ska : Sl false (exS false d) w lo B akids (.slice A3 akids.length p3) := (exT_kids d (ha' false)).exS
  have skb : Sl false (exS false d) w lo B bkids (.slice A4 bkids.length p4) := (exT_kids d (hb' false)).exS
  have h3s : Sl false (exS false (d + 1)) w lo B [(Ex.mk aop an aname akids), (Ex.mk bop bn bname bkids)] (.slice (some ⟨blk, 0, none⟩) 2 p) := (h3 false).exS
  clear ha' hb' h3 HL1 HL2
  obtain ⟨T, hTT⟩ : ∃ T, foldTwo 10 (Ex.mk aop an aname akids) (Ex.mk bop bn bname bkids) (Ex.mk 10 n name [(Ex.mk aop an aname akids), (Ex.mk bop bn bname bkids)]) = T := ⟨_, rfl⟩
  rw [hTT]
  have HTT := Lib.hid hTT
  clear hTT
  have hblk : blk < w.heap.size := by omega
  obtain ⟨vA0, hvA0⟩ : ∃ v, isN (Ex.mk aop an aname akids) 0 = v := ⟨_, rfl⟩
  obtain ⟨vA1, hvA1⟩ : ∃ v, isN (Ex.mk aop an aname akids) 1 = v := ⟨_, rfl⟩
  obtain ⟨vB0, hvB0⟩ : ∃ v, isN (Ex.mk bop bn bname bkids) 0 = v := ⟨_, rfl⟩
  obtain ⟨vB1, hvB1⟩ : ∃ v, isN (Ex.mk bop bn bname bkids) 1 = v := ⟨_, rfl⟩
  obtain ⟨vSA, hvSA⟩ : ∃ v, safeE 6 (Ex.mk aop an aname akids) = v := ⟨_, rfl⟩
  obtain ⟨vSB, hvSB⟩ : ∃ v, safeE 6 (Ex.mk bop bn bname bkids) = v := ⟨_, rfl⟩
  have HA0 := Lib.hid hvA0
  have HA1 := Lib.hid hvA1
  have HB0 := Lib.hid hvB0
  have HB1 := Lib.hid hvB1
  have HSA := Lib.hid hvSA
  have HSB := Lib.hid hvSB
  clear hvA0 hvA1 hvB0 hvB1 hvSA hvSB

  have hw : Below w.heap.size w ((w.alloc (.cells #[.int .i64 10, .int .i64 n, .string name, .slice (some ⟨blk, 0, none⟩) 2 p] 25)).alloc (.cells #[.int .i64 0, .int .i64 0, .string ⟨#[]⟩, .slice none 0 0] 25)) := ((Below.refl _ _).alloc (Nat.le_refl _) _).alloc (by simp) _
  have RE : Row _ w.heap.size 25 #[.int .i64 10, .int .i64 n, .string name, .slice (some ⟨blk, 0, none⟩) 2 p] := (Row.new w _ _).alloc (.cells #[.int .i64 0, .int .i64 0, .string ⟨#[]⟩, .slice none 0 0] 25)
  have RR : Row ((w.alloc (.cells #[.int .i64 10, .int .i64 n, .string name, .slice (some ⟨blk, 0, none⟩) 2 p] 25)).alloc (.cells #[.int .i64 0, .int .i64 0, .string ⟨#[]⟩, .slice none 0 0] 25)) (w.heap.size + 1) 25 #[.int .i64 0, .int .i64 0, .string ⟨#[]⟩, .slice none 0 0] := by simpa using Row.new (w.alloc (.cells #[.int .i64 10, .int .i64 n, .string name, .slice (some ⟨blk, 0, none⟩) 2 p] 25)) 25 #[.int .i64 0, .int .i64 0, .string ⟨#[]⟩, .slice none 0 0]
  go_enter Tryd.func48, Tryd.ntmps48
  go_wp2_with fail
  refine (spec_l1In 10 3 10 _).mono ?_
  rw [show inB 10 3 10 = true from by decide]
  rintro e w5 ⟨rfl, hw5⟩
  rw [hw5] at hw RE RR
  clear hw5
  obtain ⟨k0, k1, k2, k3, k4, k5, k6, k7⟩ := kids8 hw hblk c0 c1 c2 c3 c4 c5 c6 c7
  obtain ⟨z0, z1, z2, z3⟩ := cells4 RE
  have y_6 := (Below.refl _ w5).alloc (Nat.le_refl _) (.cells #[.int .i64 aop, .int .i64 an, .string aname, .slice A3 akids.length p3] 25)
  replace hw := hw.trans (y_6.mono hw.size)
  replace RE := RE.below y_6 RE.lt
  replace RR := RR.below y_6 RR.lt
  have RA : Row _ _ _ #[.int .i64 aop, .int .i64 an, .string aname, .slice A3 akids.length p3] := Row.new w5 25 _
  obtain ⟨l0, l1, l2, l3, l4, l5, l6, l7⟩ := kids8 hw hblk c0 c1 c2 c3 c4 c5 c6 c7
  obtain ⟨t0, t1, t2, t3⟩ := cells4 RE
  have y_7 := (Below.refl _ (w5.alloc (.cells #[.int .i64 aop, .int .i64 an, .string aname, .slice A3 akids.length p3] 25))).alloc (Nat.le_refl _) (.cells #[.int .i64 bop, .int .i64 bn, .string bname, .slice A4 bkids.length p4] 25)
  replace hw := hw.trans (y_7.mono hw.size)
  replace RE := RE.below y_7 RE.lt
  replace RR := RR.below y_7 RR.lt
  replace RA := RA.below y_7 RA.lt
  have RB : Row ((w5.alloc (.cells #[.int .i64 aop, .int .i64 an, .string aname, .slice A3 akids.length p3] 25)).alloc (.cells #[.int .i64 bop, .int .i64 bn, .string bname, .slice A4 bkids.length p4] 25)) (w5.heap.size + 1) 25 #[.int .i64 bop, .int .i64 bn, .string bname, .slice A4 bkids.length p4] := by simpa using Row.new (w5.alloc (.cells #[.int .i64 aop, .int .i64 an, .string aname, .slice A3 akids.length p3] 25)) 25 #[.int .i64 bop, .int .i64 bn, .string bname, .slice A4 bkids.length p4]
  clear c0 c1 c2 c3 c4 c5 c6 c7
  by_cases qa : aop = 1
  case neg =>
   have qa' : (aop == 1) = false := by simpa using qa
   have HN : Hid (numB 10 (Ex.mk aop an aname akids) (Ex.mk bop bn bname bkids) = false) := by show _ = _; simp [numB, Ex.op, qa]
   clear qa
   obtain ⟨y0, y1, y2, y3, y4, y5, y6, y7, y8, y9, ya, yb⟩ := cells12 RE RA RB
   go_wp2_with fail
   refine (spec_l6Is aop an aname (.slice A3 akids.length p3) 0 _ akids ⟨_, _, rfl⟩).mono ?_
   rw [HA0.out]
   rintro e w8 ⟨rfl, x8⟩
   clear y0 y1 y2 y3 y4 y5 y6 y7 y8 y9 ya yb
   replace hw := hw.trans (x8.mono hw.size)
   replace RE := RE.below x8 RE.lt
   replace RR := RR.below x8 RR.lt
   replace RA := RA.below x8 RA.lt
   replace RB := RB.below x8 RB.lt
   cases vA0
   case false =>
    obtain ⟨y0, y1, y2, y3, y4, y5, y6, y7, y8, y9, ya, yb⟩ := cells12 RE RA RB
    go_wp2_with fail
    refine (spec_l6Is bop bn bname (.slice A4 bkids.length p4) 0 _ bkids ⟨_, _, rfl⟩).mono ?_
    rw [HB0.out]
    rintro e w9 ⟨rfl, x9⟩
    clear y0 y1 y2 y3 y4 y5 y6 y7 y8 y9 ya yb
    replace hw := hw.trans (x9.mono hw.size)
    replace RE := RE.below x9 RE.lt
    replace RR := RR.below x9 RR.lt
    replace RA := RA.below x9 RA.lt
    replace RB := RB.below x9 RB.lt
    cases vB0
    case false =>
     obtain ⟨y0, y1, y2, y3, y4, y5, y6, y7, y8, y9, ya, yb⟩ := cells12 RE RA RB
     go_wp2_with fail
     refine (spec_l6Is bop bn bname (.slice A4 bkids.length p4) 1 _ bkids ⟨_, _, rfl⟩).mono ?_
     rw [HB1.out]
     rintro e w10 ⟨rfl, x10⟩
     clear y0 y1 y2 y3 y4 y5 y6 y7 y8 y9 ya yb
     replace hw := hw.trans (x10.mono hw.size)
     replace RE := RE.below x10 RE.lt
     replace RR := RR.below x10 RR.lt
     replace RA := RA.below x10 RA.lt
     replace RB := RB.below x10 RB.lt
     cases vB1
     case false =>
      obtain ⟨y0, y1, y2, y3, y4, y5, y6, y7, y8, y9, ya, yb⟩ := cells12 RE RA RB
      go_wp2_with fail
      refine (spec_l6Is aop an aname (.slice A3 akids.length p3) 0 _ akids ⟨_, _, rfl⟩).mono ?_
      rw [HA0.out]
      rintro e w11 ⟨rfl, x11⟩
      clear y0 y1 y2 y3 y4 y5 y6 y7 y8 y9 ya yb
      replace hw := hw.trans (x11.mono hw.size)
      replace RE := RE.below x11 RE.lt
      replace RR := RR.below x11 RR.lt
      replace RA := RA.below x11 RA.lt
      replace RB := RB.below x11 RB.lt
      obtain ⟨y0, y1, y2, y3, y4, y5, y6, y7, y8, y9, ya, yb⟩ := cells12 RE RA RB
      go_wp2_with fail
      refine (spec_l6Is aop an aname (.slice A3 akids.length p3) 1 _ akids ⟨_, _, rfl⟩).mono ?_
      rw [HA1.out]
      rintro e w12 ⟨rfl, x12⟩
      clear y0 y1 y2 y3 y4 y5 y6 y7 y8 y9 ya yb
      replace hw := hw.trans (x12.mono hw.size)
      replace RE := RE.below x12 RE.lt
      replace RR := RR.below x12 RR.lt
      replace RA := RA.below x12 RA.lt
      replace RB := RB.below x12 RB.lt
      cases vA1
      case false =>
       obtain ⟨s0, s1, s2, s3, f0, f1, f2, f3⟩ := cells8 RR
       obtain ⟨y0, y1, y2, y3, y4, y5, y6, y7, y8, y9, ya, yb⟩ := cells12 RE RA RB
       have F := leaf_fin (f := T) hw hB (Nat.le_succ _) RR he (by rw [← HTT.out]; unfold foldTwo; simp [HN.out, HA0.out, HB0.out, HB1.out, HA1.out])
       go_wp2_with fail
       refine bodyPost_ret (by simp [results, Tryd.results48, go_sem, s0, s1, s2, s3]) rfl F.out
      case true =>
       obtain ⟨s0, s1, s2, s3, f0, f1, f2, f3⟩ := cells8 RR
       obtain ⟨y0, y1, y2, y3, y4, y5, y6, y7, y8, y9, ya, yb⟩ := cells12 RE RA RB
       have F := leaf_fin (f := T) hw hB (Nat.le_succ _) RR he (by rw [← HTT.out]; unfold foldTwo; simp [HN.out, HA0.out, HB0.out, HB1.out, HA1.out])
       go_wp2_with fail
       refine bodyPost_ret (by simp [results, Tryd.results48, go_sem, s0, s1, s2, s3]) rfl F.out
     case true =>
      obtain ⟨y0, y1, y2, y3, y4, y5, y6, y7, y8, y9, ya, yb⟩ := cells12 RE RA RB
      go_wp2_with fail
      refine (spec_l6Is aop an aname (.slice A3 akids.length p3) 0 _ akids ⟨_, _, rfl⟩).mono ?_
      rw [HA0.out]
      rintro e w11 ⟨rfl, x11⟩
      clear y0 y1 y2 y3 y4 y5 y6 y7 y8 y9 ya yb
      replace hw := hw.trans (x11.mono hw.size)
      replace RE := RE.below x11 RE.lt
      replace RR := RR.below x11 RR.lt
      replace RA := RA.below x11 RA.lt
      replace RB := RB.below x11 RB.lt
      obtain ⟨y0, y1, y2, y3, y4, y5, y6, y7, y8, y9, ya, yb⟩ := cells12 RE RA RB
      go_wp2_with fail
      refine (spec_l6Is aop an aname (.slice A3 akids.length p3) 1 _ akids ⟨_, _, rfl⟩).mono ?_
      rw [HA1.out]
      rintro e w12 ⟨rfl, x12⟩
      clear y0 y1 y2 y3 y4 y5 y6 y7 y8 y9 ya yb
      replace hw := hw.trans (x12.mono hw.size)
      replace RE := RE.below x12 RE.lt
      replace RR := RR.below x12 RR.lt
      replace RA := RA.below x12 RA.lt
      replace RB := RB.below x12 RB.lt
      cases vA1
      case false =>
       obtain ⟨s0, s1, s2, s3, f0, f1, f2, f3⟩ := cells8 RR
       obtain ⟨y0, y1, y2, y3, y4, y5, y6, y7, y8, y9, ya, yb⟩ := cells12 RE RA RB
       have F := leaf_fin (f := T) hw hB (Nat.le_succ _) RR he (by rw [← HTT.out]; unfold foldTwo; simp [HN.out, HA0.out, HB0.out, HB1.out, HA1.out])
       go_wp2_with fail
       refine bodyPost_ret (by simp [results, Tryd.results48, go_sem, s0, s1, s2, s3]) rfl F.out
      case true =>
       obtain ⟨s0, s1, s2, s3, f0, f1, f2, f3⟩ := cells8 RR
       obtain ⟨y0, y1, y2, y3, y4, y5, y6, y7, y8, y9, ya, yb⟩ := cells12 RE RA RB
       have F := leaf_fin (f := T) hw hB (Nat.le_succ _) RR he (by rw [← HTT.out]; unfold foldTwo; simp [HN.out, HA0.out, HB0.out, HB1.out, HA1.out])
       go_wp2_with fail
       refine bodyPost_ret (by simp [results, Tryd.results48, go_sem, s0, s1, s2, s3]) rfl F.out
    case true =>
     obtain ⟨y0, y1, y2, y3, y4, y5, y6, y7, y8, y9, ya, yb⟩ := cells12 RE RA RB
     go_wp2_with fail
     refine (spec_l6Is bop bn bname (.slice A4 bkids.length p4) 1 _ bkids ⟨_, _, rfl⟩).mono ?_
     rw [HB1.out]
     rintro e w10 ⟨rfl, x10⟩
     clear y0 y1 y2 y3 y4 y5 y6 y7 y8 y9 ya yb
     replace hw := hw.trans (x10.mono hw.size)
     replace RE := RE.below x10 RE.lt
     replace RR := RR.below x10 RR.lt
     replace RA := RA.below x10 RA.lt
     replace RB := RB.below x10 RB.lt
     cases vB1
     case false =>
      obtain ⟨y0, y1, y2, y3, y4, y5, y6, y7, y8, y9, ya, yb⟩ := cells12 RE RA RB
      go_wp2_with fail
      refine (spec_l6Is aop an aname (.slice A3 akids.length p3) 0 _ akids ⟨_, _, rfl⟩).mono ?_
      rw [HA0.out]
      rintro e w11 ⟨rfl, x11⟩
      clear y0 y1 y2 y3 y4 y5 y6 y7 y8 y9 ya yb
      replace hw := hw.trans (x11.mono hw.size)
      replace RE := RE.below x11 RE.lt
      replace RR := RR.below x11 RR.lt
      replace RA := RA.below x11 RA.lt
      replace RB := RB.below x11 RB.lt
      obtain ⟨y0, y1, y2, y3, y4, y5, y6, y7, y8, y9, ya, yb⟩ := cells12 RE RA RB
      go_wp2_with fail
      refine (spec_l6Is aop an aname (.slice A3 akids.length p3) 1 _ akids ⟨_, _, rfl⟩).mono ?_
      rw [HA1.out]
      rintro e w12 ⟨rfl, x12⟩
      clear y0 y1 y2 y3 y4 y5 y6 y7 y8 y9 ya yb
      replace hw := hw.trans (x12.mono hw.size)
      replace RE := RE.below x12 RE.lt
      replace RR := RR.below x12 RR.lt
      replace RA := RA.below x12 RA.lt
      replace RB := RB.below x12 RB.lt
      cases vA1
      case false =>
       obtain ⟨s0, s1, s2, s3, f0, f1, f2, f3⟩ := cells8 RR
       obtain ⟨y0, y1, y2, y3, y4, y5, y6, y7, y8, y9, ya, yb⟩ := cells12 RE RA RB
       have F := leaf_fin (f := T) hw hB (Nat.le_succ _) RR he (by rw [← HTT.out]; unfold foldTwo; simp [HN.out, HA0.out, HB0.out, HB1.out, HA1.out])
       go_wp2_with fail
       refine bodyPost_ret (by simp [results, Tryd.results48, go_sem, s0, s1, s2, s3]) rfl F.out
      case true =>
       obtain ⟨s0, s1, s2, s3, f0, f1, f2, f3⟩ := cells8 RR
       obtain ⟨y0, y1, y2, y3, y4, y5, y6, y7, y8, y9, ya, yb⟩ := cells12 RE RA RB
       have F := leaf_fin (f := T) hw hB (Nat.le_succ _) RR he (by rw [← HTT.out]; unfold foldTwo; simp [HN.out, HA0.out, HB0.out, HB1.out, HA1.out])
       go_wp2_with fail
       refine bodyPost_ret (by simp [results, Tryd.results48, go_sem, s0, s1, s2, s3]) rfl F.out
     case true =>
      obtain ⟨y0, y1, y2, y3, y4, y5, y6, y7, y8, y9, ya, yb⟩ := cells12 RE RA RB
      go_wp2_with fail
      refine (spec_l6Is aop an aname (.slice A3 akids.length p3) 0 _ akids ⟨_, _, rfl⟩).mono ?_
      rw [HA0.out]
      rintro e w11 ⟨rfl, x11⟩
      clear y0 y1 y2 y3 y4 y5 y6 y7 y8 y9 ya yb
      replace hw := hw.trans (x11.mono hw.size)
      replace RE := RE.below x11 RE.lt
      replace RR := RR.below x11 RR.lt
      replace RA := RA.below x11 RA.lt
      replace RB := RB.below x11 RB.lt
      obtain ⟨y0, y1, y2, y3, y4, y5, y6, y7, y8, y9, ya, yb⟩ := cells12 RE RA RB
      go_wp2_with fail
      refine (spec_l6Is aop an aname (.slice A3 akids.length p3) 1 _ akids ⟨_, _, rfl⟩).mono ?_
      rw [HA1.out]
      rintro e w12 ⟨rfl, x12⟩
      clear y0 y1 y2 y3 y4 y5 y6 y7 y8 y9 ya yb
      replace hw := hw.trans (x12.mono hw.size)
      replace RE := RE.below x12 RE.lt
      replace RR := RR.below x12 RR.lt
      replace RA := RA.below x12 RA.lt
      replace RB := RB.below x12 RB.lt
      cases vA1
      case false =>
       obtain ⟨s0, s1, s2, s3, f0, f1, f2, f3⟩ := cells8 RR
       obtain ⟨y0, y1, y2, y3, y4, y5, y6, y7, y8, y9, ya, yb⟩ := cells12 RE RA RB
       have F := leaf_fin (f := T) hw hB (Nat.le_succ _) RR he (by rw [← HTT.out]; unfold foldTwo; simp [HN.out, HA0.out, HB0.out, HB1.out, HA1.out])
       go_wp2_with fail
       refine bodyPost_ret (by simp [results, Tryd.results48, go_sem, s0, s1, s2, s3]) rfl F.out
      case true =>
       obtain ⟨s0, s1, s2, s3, f0, f1, f2, f3⟩ := cells8 RR
       obtain ⟨y0, y1, y2, y3, y4, y5, y6, y7, y8, y9, ya, yb⟩ := cells12 RE RA RB
       have F := leaf_fin (f := T) hw hB (Nat.le_succ _) RR he (by rw [← HTT.out]; unfold foldTwo; simp [HN.out, HA0.out, HB0.out, HB1.out, HA1.out])
       go_wp2_with fail
       refine bodyPost_ret (by simp [results, Tryd.results48, go_sem, s0, s1, s2, s3]) rfl F.out
   case true =>
    obtain ⟨y0, y1, y2, y3, y4, y5, y6, y7, y8, y9, ya, yb⟩ := cells12 RE RA RB
    go_wp2_with fail
    refine (spec_num (d + 1) (0) _ ⟨by omega, by omega⟩).mono ?_
    rintro e w9 ⟨An, cn, rfl, hnr, x9⟩
    clear y0 y1 y2 y3 y4 y5 y6 y7 y8 y9 ya yb
    replace hw := hw.trans (x9.mono hw.size)
    replace RE := RE.below x9 RE.lt
    replace RR := RR.below x9 RR.lt
    replace RA := RA.below x9 RA.lt
    replace RB := RB.below x9 RB.lt
    obtain ⟨s0, s1, s2, s3, f0, f1, f2, f3⟩ := cells8 RR
    obtain ⟨y0, y1, y2, y3, y4, y5, y6, y7, y8, y9, ya, yb⟩ := cells12 RE RA RB
    have F := leaf_fin (f := T) hw hB (Nat.le_succ _) RR (hnr w lo B) (show T = exN1 (0) by rw [← HTT.out]; unfold foldTwo; simp [HN.out, HA0.out])
    go_wp2_with fail
    refine bodyPost_ret (by simp [results, Tryd.results48, go_sem, s0, s1, s2, s3]) rfl F.out
  by_cases qb : bop = 1
  case neg =>
   have qb' : (bop == 1) = false := by simpa using qb
   have HN : Hid (numB 10 (Ex.mk aop an aname akids) (Ex.mk bop bn bname bkids) = false) := by show _ = _; simp [numB, Ex.op, qb]
   subst qa
   clear qb
   obtain ⟨y0, y1, y2, y3, y4, y5, y6, y7, y8, y9, ya, yb⟩ := cells12 RE RA RB
   go_wp2_with fail
   refine (spec_l6Is 1 an aname (.slice A3 akids.length p3) 0 _ akids ⟨_, _, rfl⟩).mono ?_
   rw [HA0.out]
   rintro e w8 ⟨rfl, x8⟩
   clear y0 y1 y2 y3 y4 y5 y6 y7 y8 y9 ya yb
   replace hw := hw.trans (x8.mono hw.size)
   replace RE := RE.below x8 RE.lt
   replace RR := RR.below x8 RR.lt
   replace RA := RA.below x8 RA.lt
   replace RB := RB.below x8 RB.lt
   cases vA0
   case false =>
    obtain ⟨y0, y1, y2, y3, y4, y5, y6, y7, y8, y9, ya, yb⟩ := cells12 RE RA RB
    go_wp2_with fail
    refine (spec_l6Is bop bn bname (.slice A4 bkids.length p4) 0 _ bkids ⟨_, _, rfl⟩).mono ?_
    rw [HB0.out]
    rintro e w9 ⟨rfl, x9⟩
    clear y0 y1 y2 y3 y4 y5 y6 y7 y8 y9 ya yb
    replace hw := hw.trans (x9.mono hw.size)
    replace RE := RE.below x9 RE.lt
    replace RR := RR.below x9 RR.lt
    replace RA := RA.below x9 RA.lt
    replace RB := RB.below x9 RB.lt
    cases vB0
    case false =>
     obtain ⟨y0, y1, y2, y3, y4, y5, y6, y7, y8, y9, ya, yb⟩ := cells12 RE RA RB
     go_wp2_with fail
     refine (spec_l6Is bop bn bname (.slice A4 bkids.length p4) 1 _ bkids ⟨_, _, rfl⟩).mono ?_
     rw [HB1.out]
     rintro e w10 ⟨rfl, x10⟩
     clear y0 y1 y2 y3 y4 y5 y6 y7 y8 y9 ya yb
     replace hw := hw.trans (x10.mono hw.size)
     replace RE := RE.below x10 RE.lt
     replace RR := RR.below x10 RR.lt
     replace RA := RA.below x10 RA.lt
     replace RB := RB.below x10 RB.lt
     cases vB1
     case false =>
      obtain ⟨y0, y1, y2, y3, y4, y5, y6, y7, y8, y9, ya, yb⟩ := cells12 RE RA RB
      go_wp2_with fail
      refine (spec_l6Is 1 an aname (.slice A3 akids.length p3) 0 _ akids ⟨_, _, rfl⟩).mono ?_
      rw [HA0.out]
      rintro e w11 ⟨rfl, x11⟩
      clear y0 y1 y2 y3 y4 y5 y6 y7 y8 y9 ya yb
      replace hw := hw.trans (x11.mono hw.size)
      replace RE := RE.below x11 RE.lt
      replace RR := RR.below x11 RR.lt
      replace RA := RA.below x11 RA.lt
      replace RB := RB.below x11 RB.lt
      obtain ⟨y0, y1, y2, y3, y4, y5, y6, y7, y8, y9, ya, yb⟩ := cells12 RE RA RB
      go_wp2_with fail
      refine (spec_l6Is 1 an aname (.slice A3 akids.length p3) 1 _ akids ⟨_, _, rfl⟩).mono ?_
      rw [HA1.out]
      rintro e w12 ⟨rfl, x12⟩
      clear y0 y1 y2 y3 y4 y5 y6 y7 y8 y9 ya yb
      replace hw := hw.trans (x12.mono hw.size)
      replace RE := RE.below x12 RE.lt
      replace RR := RR.below x12 RR.lt
      replace RA := RA.below x12 RA.lt
      replace RB := RB.below x12 RB.lt
      cases vA1
      case false =>
       obtain ⟨s0, s1, s2, s3, f0, f1, f2, f3⟩ := cells8 RR
       obtain ⟨y0, y1, y2, y3, y4, y5, y6, y7, y8, y9, ya, yb⟩ := cells12 RE RA RB
       have F := leaf_fin (f := T) hw hB (Nat.le_succ _) RR he (by rw [← HTT.out]; unfold foldTwo; simp [HN.out, HA0.out, HB0.out, HB1.out, HA1.out])
       go_wp2_with fail
       refine bodyPost_ret (by simp [results, Tryd.results48, go_sem, s0, s1, s2, s3]) rfl F.out
      case true =>
       obtain ⟨s0, s1, s2, s3, f0, f1, f2, f3⟩ := cells8 RR
       obtain ⟨y0, y1, y2, y3, y4, y5, y6, y7, y8, y9, ya, yb⟩ := cells12 RE RA RB
       have F := leaf_fin (f := T) hw hB (Nat.le_succ _) RR he (by rw [← HTT.out]; unfold foldTwo; simp [HN.out, HA0.out, HB0.out, HB1.out, HA1.out])
       go_wp2_with fail
       refine bodyPost_ret (by simp [results, Tryd.results48, go_sem, s0, s1, s2, s3]) rfl F.out
     case true =>
      obtain ⟨y0, y1, y2, y3, y4, y5, y6, y7, y8, y9, ya, yb⟩ := cells12 RE RA RB
      go_wp2_with fail
      refine (spec_l6Is 1 an aname (.slice A3 akids.length p3) 0 _ akids ⟨_, _, rfl⟩).mono ?_
      rw [HA0.out]
      rintro e w11 ⟨rfl, x11⟩
      clear y0 y1 y2 y3 y4 y5 y6 y7 y8 y9 ya yb
      replace hw := hw.trans (x11.mono hw.size)
      replace RE := RE.below x11 RE.lt
      replace RR := RR.below x11 RR.lt
      replace RA := RA.below x11 RA.lt
      replace RB := RB.below x11 RB.lt
      obtain ⟨y0, y1, y2, y3, y4, y5, y6, y7, y8, y9, ya, yb⟩ := cells12 RE RA RB
      go_wp2_with fail
      refine (spec_l6Is 1 an aname (.slice A3 akids.length p3) 1 _ akids ⟨_, _, rfl⟩).mono ?_
      rw [HA1.out]
      rintro e w12 ⟨rfl, x12⟩
      clear y0 y1 y2 y3 y4 y5 y6 y7 y8 y9 ya yb
      replace hw := hw.trans (x12.mono hw.size)
      replace RE := RE.below x12 RE.lt
      replace RR := RR.below x12 RR.lt
      replace RA := RA.below x12 RA.lt
      replace RB := RB.below x12 RB.lt
      cases vA1
      case false =>
       obtain ⟨s0, s1, s2, s3, f0, f1, f2, f3⟩ := cells8 RR
       obtain ⟨y0, y1, y2, y3, y4, y5, y6, y7, y8, y9, ya, yb⟩ := cells12 RE RA RB
       have F := leaf_fin (f := T) hw hB (Nat.le_succ _) RR he (by rw [← HTT.out]; unfold foldTwo; simp [HN.out, HA0.out, HB0.out, HB1.out, HA1.out])
       go_wp2_with fail
       refine bodyPost_ret (by simp [results, Tryd.results48, go_sem, s0, s1, s2, s3]) rfl F.out
      case true =>
       obtain ⟨s0, s1, s2, s3, f0, f1, f2, f3⟩ := cells8 RR
       obtain ⟨y0, y1, y2, y3, y4, y5, y6, y7, y8, y9, ya, yb⟩ := cells12 RE RA RB
       have F := leaf_fin (f := T) hw hB (Nat.le_succ _) RR he (by rw [← HTT.out]; unfold foldTwo; simp [HN.out, HA0.out, HB0.out, HB1.out, HA1.out])
       go_wp2_with fail
       refine bodyPost_ret (by simp [results, Tryd.results48, go_sem, s0, s1, s2, s3]) rfl F.out
    case true =>
     obtain ⟨y0, y1, y2, y3, y4, y5, y6, y7, y8, y9, ya, yb⟩ := cells12 RE RA RB
     go_wp2_with fail
     refine (spec_l6Is bop bn bname (.slice A4 bkids.length p4) 1 _ bkids ⟨_, _, rfl⟩).mono ?_
     rw [HB1.out]
     rintro e w10 ⟨rfl, x10⟩
     clear y0 y1 y2 y3 y4 y5 y6 y7 y8 y9 ya yb
     replace hw := hw.trans (x10.mono hw.size)
     replace RE := RE.below x10 RE.lt
     replace RR := RR.below x10 RR.lt
     replace RA := RA.below x10 RA.lt
     replace RB := RB.below x10 RB.lt
     cases vB1
     case false =>
      obtain ⟨y0, y1, y2, y3, y4, y5, y6, y7, y8, y9, ya, yb⟩ := cells12 RE RA RB
      go_wp2_with fail
      refine (spec_l6Is 1 an aname (.slice A3 akids.length p3) 0 _ akids ⟨_, _, rfl⟩).mono ?_
      rw [HA0.out]
      rintro e w11 ⟨rfl, x11⟩
      clear y0 y1 y2 y3 y4 y5 y6 y7 y8 y9 ya yb
      replace hw := hw.trans (x11.mono hw.size)
      replace RE := RE.below x11 RE.lt
      replace RR := RR.below x11 RR.lt
      replace RA := RA.below x11 RA.lt
      replace RB := RB.below x11 RB.lt
      obtain ⟨y0, y1, y2, y3, y4, y5, y6, y7, y8, y9, ya, yb⟩ := cells12 RE RA RB
      go_wp2_with fail
      refine (spec_l6Is 1 an aname (.slice A3 akids.length p3) 1 _ akids ⟨_, _, rfl⟩).mono ?_
      rw [HA1.out]
      rintro e w12 ⟨rfl, x12⟩
      clear y0 y1 y2 y3 y4 y5 y6 y7 y8 y9 ya yb
      replace hw := hw.trans (x12.mono hw.size)
      replace RE := RE.below x12 RE.lt
      replace RR := RR.below x12 RR.lt
      replace RA := RA.below x12 RA.lt
      replace RB := RB.below x12 RB.lt
      cases vA1
      case false =>
       obtain ⟨s0, s1, s2, s3, f0, f1, f2, f3⟩ := cells8 RR
       obtain ⟨y0, y1, y2, y3, y4, y5, y6, y7, y8, y9, ya, yb⟩ := cells12 RE RA RB
       have F := leaf_fin (f := T) hw hB (Nat.le_succ _) RR he (by rw [← HTT.out]; unfold foldTwo; simp [HN.out, HA0.out, HB0.out, HB1.out, HA1.out])
       go_wp2_with fail
       refine bodyPost_ret (by simp [results, Tryd.results48, go_sem, s0, s1, s2, s3]) rfl F.out
      case true =>
       obtain ⟨s0, s1, s2, s3, f0, f1, f2, f3⟩ := cells8 RR
       obtain ⟨y0, y1, y2, y3, y4, y5, y6, y7, y8, y9, ya, yb⟩ := cells12 RE RA RB
       have F := leaf_fin (f := T) hw hB (Nat.le_succ _) RR he (by rw [← HTT.out]; unfold foldTwo; simp [HN.out, HA0.out, HB0.out, HB1.out, HA1.out])
       go_wp2_with fail
       refine bodyPost_ret (by simp [results, Tryd.results48, go_sem, s0, s1, s2, s3]) rfl F.out
     case true =>
      obtain ⟨y0, y1, y2, y3, y4, y5, y6, y7, y8, y9, ya, yb⟩ := cells12 RE RA RB
      go_wp2_with fail
      refine (spec_l6Is 1 an aname (.slice A3 akids.length p3) 0 _ akids ⟨_, _, rfl⟩).mono ?_
      rw [HA0.out]
      rintro e w11 ⟨rfl, x11⟩
      clear y0 y1 y2 y3 y4 y5 y6 y7 y8 y9 ya yb
      replace hw := hw.trans (x11.mono hw.size)
      replace RE := RE.below x11 RE.lt
      replace RR := RR.below x11 RR.lt
      replace RA := RA.below x11 RA.lt
      replace RB := RB.below x11 RB.lt
      obtain ⟨y0, y1, y2, y3, y4, y5, y6, y7, y8, y9, ya, yb⟩ := cells12 RE RA RB
      go_wp2_with fail
      refine (spec_l6Is 1 an aname (.slice A3 akids.length p3) 1 _ akids ⟨_, _, rfl⟩).mono ?_
      rw [HA1.out]
      rintro e w12 ⟨rfl, x12⟩
      clear y0 y1 y2 y3 y4 y5 y6 y7 y8 y9 ya yb
      replace hw := hw.trans (x12.mono hw.size)
      replace RE := RE.below x12 RE.lt
      replace RR := RR.below x12 RR.lt
      replace RA := RA.below x12 RA.lt
      replace RB := RB.below x12 RB.lt
      cases vA1
      case false =>
       obtain ⟨s0, s1, s2, s3, f0, f1, f2, f3⟩ := cells8 RR
       obtain ⟨y0, y1, y2, y3, y4, y5, y6, y7, y8, y9, ya, yb⟩ := cells12 RE RA RB
       have F := leaf_fin (f := T) hw hB (Nat.le_succ _) RR he (by rw [← HTT.out]; unfold foldTwo; simp [HN.out, HA0.out, HB0.out, HB1.out, HA1.out])
       go_wp2_with fail
       refine bodyPost_ret (by simp [results, Tryd.results48, go_sem, s0, s1, s2, s3]) rfl F.out
      case true =>
       obtain ⟨s0, s1, s2, s3, f0, f1, f2, f3⟩ := cells8 RR
       obtain ⟨y0, y1, y2, y3, y4, y5, y6, y7, y8, y9, ya, yb⟩ := cells12 RE RA RB
       have F := leaf_fin (f := T) hw hB (Nat.le_succ _) RR he (by rw [← HTT.out]; unfold foldTwo; simp [HN.out, HA0.out, HB0.out, HB1.out, HA1.out])
       go_wp2_with fail
       refine bodyPost_ret (by simp [results, Tryd.results48, go_sem, s0, s1, s2, s3]) rfl F.out
   case true =>
    obtain ⟨y0, y1, y2, y3, y4, y5, y6, y7, y8, y9, ya, yb⟩ := cells12 RE RA RB
    go_wp2_with fail
    refine (spec_num (d + 1) (0) _ ⟨by omega, by omega⟩).mono ?_
    rintro e w9 ⟨An, cn, rfl, hnr, x9⟩
    clear y0 y1 y2 y3 y4 y5 y6 y7 y8 y9 ya yb
    replace hw := hw.trans (x9.mono hw.size)
    replace RE := RE.below x9 RE.lt
    replace RR := RR.below x9 RR.lt
    replace RA := RA.below x9 RA.lt
    replace RB := RB.below x9 RB.lt
    obtain ⟨s0, s1, s2, s3, f0, f1, f2, f3⟩ := cells8 RR
    obtain ⟨y0, y1, y2, y3, y4, y5, y6, y7, y8, y9, ya, yb⟩ := cells12 RE RA RB
    have F := leaf_fin (f := T) hw hB (Nat.le_succ _) RR (hnr w lo B) (show T = exN1 (0) by rw [← HTT.out]; unfold foldTwo; simp [HN.out, HA0.out])
    go_wp2_with fail
    refine bodyPost_ret (by simp [results, Tryd.results48, go_sem, s0, s1, s2, s3]) rfl F.out
  subst qa qb
  obtain ⟨an0, an1⟩ := ra rfl
  obtain ⟨bn0, bn1⟩ := rb rfl
  clear ra rb
  have hv : (arV 10 an bn).2 = true := by simp [arV]
  have HN : Hid (numB 10 (Ex.mk 1 an aname akids) (Ex.mk 1 bn bname bkids) = true) := by show _ = _; simp [numB, Ex.op, Ex.n, hv]
  have HV := Lib.hid (show endC (arV 10 an bn).2 = 0 by rw [hv]; rfl)
  have hI : I64 (arV 10 an bn).1 := by
    have := arV_range (op := 10) an0 an1 bn0 bn1
    exact ⟨by omega, by omega⟩
  clear hv
  obtain ⟨y0, y1, y2, y3, y4, y5, y6, y7, y8, y9, ya, yb⟩ := cells12 RE RA RB
  go_wp2_with fail
  refine (spec_l5Eval_two (d + 1) 10 n name [(Ex.mk 1 an aname akids), (Ex.mk 1 bn bname bkids)] _ p _ lo B an bn aname bname akids bkids (Nat.le_trans hB hw.size) (h3s.below hw hB) rfl an0 an1 bn0 bn1 (by omega) (by omega)).mono ?_
  rw [HV.out]
  rintro e w8 ⟨rfl, x8⟩
  clear y0 y1 y2 y3 y4 y5 y6 y7 y8 y9 ya yb
  replace hw := hw.trans (x8.mono hw.size)
  replace RE := RE.below x8 RE.lt
  replace RR := RR.below x8 RR.lt
  replace RA := RA.below x8 RA.lt
  replace RB := RB.below x8 RB.lt
  obtain ⟨y0, y1, y2, y3, y4, y5, y6, y7, y8, y9, ya, yb⟩ := cells12 RE RA RB
  go_wp2_with fail
  refine (spec_num (d + 1) ((arV 10 an bn).1) _ hI).mono ?_
  rintro e w9 ⟨An, cn, rfl, hnr, x9⟩
  clear y0 y1 y2 y3 y4 y5 y6 y7 y8 y9 ya yb
  replace hw := hw.trans (x9.mono hw.size)
  replace RE := RE.below x9 RE.lt
  replace RR := RR.below x9 RR.lt
  replace RA := RA.below x9 RA.lt
  replace RB := RB.below x9 RB.lt
  obtain ⟨s0, s1, s2, s3, f0, f1, f2, f3⟩ := cells8 RR
  obtain ⟨y0, y1, y2, y3, y4, y5, y6, y7, y8, y9, ya, yb⟩ := cells12 RE RA RB
  have F := leaf_fin (f := T) hw hB (Nat.le_succ _) RR (hnr w lo B) (show T = exN1 ((arV 10 an bn).1) by rw [← HTT.out]; unfold foldTwo; rw [if_pos HN.out]; rfl)
  go_wp2_with fail
  refine bodyPost_ret (by simp [results, Tryd.results48, go_sem, s0, s1, s2, s3]) rfl F.out
end Go.Proofs.YthfinoapfbhgcaaDoor

namespace Go.Proofs.YthfinoapfbhgcaaDoor
open Go.RowKit Go.ChangeShapes Go.WideShapes Go.Deep
set_option linter.unusedVariables false
set_option linter.unusedSimpArgs false
theorem one_list {l : List Ex} {x : Ex} (h1 : l.length = 1) {h0 : 0 < l.length} (h : l[0] = x) : l = [x] := by
  cases l with
  | nil => simp at h1
  | cons y r =>
    have hr : r = [] := List.eq_nil_of_length_eq_zero (by simpa using h1)
    subst hr
    have h2 : y = x := h
    rw [h2]
set_option maxRecDepth 100000 in
set_option maxHeartbeats 16000000 in
theorem spec_l6Part_11 (d : Nat) (n : Int) (name : ByteArray) (kop kn : Int) (kname : ByteArray) (kkids : List Ex) (A : Option Addr) (p : Nat) (w : World) (lo B : Nat) (hB : B ≤ w.heap.size) (hn : I64 n) (hnm : name.size ≤ maxLen)
    (h3 : ∀ m, SlT m (exT m (d + 1)) w lo B [.mk kop kn kname kkids] (.slice A 1 p)) (rk : kop = 1 → 0 ≤ kn ∧ kn ≤ 255) (hl : kop = 11 → kkids.length = 1)  :
    Calls Tryd.prog 48 #[.agg #[.int .i64 11, .int .i64 n, .string name, .slice A 1 p]] w (FoldRP (d + 1) (foldP (Ex.mk 11 n name [(Ex.mk kop kn kname kkids)])) lo B w) := by
  obtain ⟨blk, op1, n1, nm1, k1, A3, p3, rfl, hlb, hbB, HL1, oa, na, sa, hk', c0, c1, c2, c3⟩ := exT_get d h3 (show 0 < 1 by omega)
  have e1 := HL1.out
  injection e1 with e1 e2 e3 e4
  subst e1 e2 e3 e4
  have he : ∀ m, (exT m (d + 1 + 1)).rep w lo B (Ex.mk 11 n name [(Ex.mk kop kn kname kkids)]) [.int .i64 11, .int .i64 n, .string name, .slice (some ⟨blk, 0, none⟩) 1 p] := fun m => exT_mk m (d + 1) 11 n name _ _ ⟨by omega, by omega⟩ hn hnm (h3 m)
  have hb0 : Below w.heap.size w ((w.alloc (.cells #[.int .i64 11, .int .i64 n, .string name, .slice (some ⟨blk, 0, none⟩) 1 p] 25)).alloc (.cells #[.int .i64 0, .int .i64 0, .string ⟨#[]⟩, .slice none 0 0] 25)) := ((Below.refl _ _).alloc (Nat.le_refl _) _).alloc (by simp) _
  have RE_0 : Row ((w.alloc (.cells #[.int .i64 11, .int .i64 n, .string name, .slice (some ⟨blk, 0, none⟩) 1 p] 25)).alloc (.cells #[.int .i64 0, .int .i64 0, .string ⟨#[]⟩, .slice none 0 0] 25)) w.heap.size 25 #[.int .i64 11, .int .i64 n, .string name, .slice (some ⟨blk, 0, none⟩) 1 p] := (Row.new w _ _).alloc _
  have RR_0 : Row ((w.alloc (.cells #[.int .i64 11, .int .i64 n, .string name, .slice (some ⟨blk, 0, none⟩) 1 p] 25)).alloc (.cells #[.int .i64 0, .int .i64 0, .string ⟨#[]⟩, .slice none 0 0] 25)) (w.heap.size + 1) 25 #[.int .i64 0, .int .i64 0, .string ⟨#[]⟩, .slice none 0 0] := by simpa using Row.new (w.alloc (.cells #[.int .i64 11, .int .i64 n, .string name, .slice (some ⟨blk, 0, none⟩) 1 p] 25)) 25 #[.int .i64 0, .int .i64 0, .string ⟨#[]⟩, .slice none 0 0]

  by_cases q1 : kop = 1
  · subst q1
    have k0 : ((w.alloc (.cells #[.int .i64 11, .int .i64 n, .string name, .slice (some ⟨blk, 0, none⟩) 1 p] 25)).alloc (.cells #[.int .i64 0, .int .i64 0, .string ⟨#[]⟩, .slice none 0 0] 25)).cell? ⟨blk, 0, none⟩ = some (.int .i64 1) := (hb0.cell (p := ⟨blk, 0, none⟩) (show blk < w.heap.size by omega)).trans (by simpa using c0)
    have k1 : ((w.alloc (.cells #[.int .i64 11, .int .i64 n, .string name, .slice (some ⟨blk, 0, none⟩) 1 p] 25)).alloc (.cells #[.int .i64 0, .int .i64 0, .string ⟨#[]⟩, .slice none 0 0] 25)).cell? ⟨blk, 1, none⟩ = some (.int .i64 kn) := (hb0.cell (p := ⟨blk, 1, none⟩) (show blk < w.heap.size by omega)).trans (by simpa using c1)
    have k2 : ((w.alloc (.cells #[.int .i64 11, .int .i64 n, .string name, .slice (some ⟨blk, 0, none⟩) 1 p] 25)).alloc (.cells #[.int .i64 0, .int .i64 0, .string ⟨#[]⟩, .slice none 0 0] 25)).cell? ⟨blk, 2, none⟩ = some (.string kname) := (hb0.cell (p := ⟨blk, 2, none⟩) (show blk < w.heap.size by omega)).trans (by simpa using c2)
    have k3 : ((w.alloc (.cells #[.int .i64 11, .int .i64 n, .string name, .slice (some ⟨blk, 0, none⟩) 1 p] 25)).alloc (.cells #[.int .i64 0, .int .i64 0, .string ⟨#[]⟩, .slice none 0 0] 25)).cell? ⟨blk, 3, none⟩ = some (.slice A3 kkids.length p3) := (hb0.cell (p := ⟨blk, 3, none⟩) (show blk < w.heap.size by omega)).trans (by simpa using c3)
    obtain ⟨kn0, kn1⟩ := rk rfl
    have RR_1 := RR_0.alloc (.cells #[.int .i64 1, .int .i64 kn, .string kname, .slice A3 kkids.length p3] 25)
    have hb1 : Below w.heap.size w (((w.alloc (.cells #[.int .i64 11, .int .i64 n, .string name, .slice (some ⟨blk, 0, none⟩) 1 p] 25)).alloc (.cells #[.int .i64 0, .int .i64 0, .string ⟨#[]⟩, .slice none 0 0] 25)).alloc (.cells #[.int .i64 1, .int .i64 kn, .string kname, .slice A3 kkids.length p3] 25)) := hb0.alloc (by simp; omega) _
    have EQ : foldP (Ex.mk 11 n name [(Ex.mk 1 kn kname kkids)]) = exN1 (tru (kn == 0)) := by
      unfold foldP
      simp [Ex.op, Ex.n, Ex.kids, hd]
    replace EQ := Lib.hid EQ
    clear rk hl
    go_enter Tryd.func48, Tryd.ntmps48
    go_wp2_with fail
    refine (spec_l5Truth (kn == 0) _).mono ?_
    rintro e w' ⟨rfl, hw'⟩
    have hb5 : Below w.heap.size w w' := hw' ▸ hb1
    have RR_5 : Row w' (w.heap.size + 1) 25 #[.int .i64 0, .int .i64 0, .string ⟨#[]⟩, .slice none 0 0] := hw' ▸ RR_1
    clear hw' hb1 RR_1 RR_0 RE_0 hb0
    go_wp2_with fail
    refine (spec_num (d + 1) (tru (kn == 0)) _ ⟨by have := tru_range (kn == 0); omega, by have := tru_range (kn == 0); omega⟩).mono ?_
    rintro e w6 ⟨An, cn, rfl, hnr, x6⟩
    have hb6 := hb5.trans (x6.mono hb5.size)
    have RR_6 := RR_5.below x6 RR_5.lt
    have sRR0 : w6.cell? ⟨w.heap.size + 1, 0, none⟩ = some (.int .i64 0) := RR_6.cell 0
    have sRR1 : w6.cell? ⟨w.heap.size + 1, 1, none⟩ = some (.int .i64 0) := RR_6.cell 1
    have sRR2 : w6.cell? ⟨w.heap.size + 1, 2, none⟩ = some (.string ⟨#[]⟩) := RR_6.cell 2
    have sRR3 : w6.cell? ⟨w.heap.size + 1, 3, none⟩ = some (.slice none 0 0) := RR_6.cell 3
    have sf0 : w6.frozen? ⟨w.heap.size + 1, 0, none⟩ = false := RR_6.frozen 0
    have sf1 : w6.frozen? ⟨w.heap.size + 1, 1, none⟩ = false := RR_6.frozen 1
    have sf2 : w6.frozen? ⟨w.heap.size + 1, 2, none⟩ = false := RR_6.frozen 2
    have sf3 : w6.frozen? ⟨w.heap.size + 1, 3, none⟩ = false := RR_6.frozen 3
    have F := Lib.hid (fold_fin (y := exN1 (tru (kn == 0))) hb6 hB (Nat.le_succ _) RR_6 (hnr w lo B))
    go_wp2_with fail
    refine bodyPost_ret (v := .agg #[.int .i64 1, .int .i64 (tru (kn == 0)), .string ⟨#[]⟩, .slice An 0 cn]) (by simp [results, Tryd.results48, go_sem, sRR0, sRR1, sRR2, sRR3]) rfl ?_
    rw [EQ.out]
    exact F.out
  by_cases q11 : kop = 11
  · subst q11
    obtain ⟨d', rfl⟩ := exS_pos (exT_kids d (hk' false)).exS (show 0 < kkids.length by rw [hl rfl]; omega)
    have hkk := fun m => exT_kids (d' + 1) (hk' m)
    obtain ⟨blj, jop, jn, jname, jkids, A5, p5, rfl, _, hbj, HJ, jo, jn64, jnm, hj', i0, i1, i2, i3⟩ := exT_get d' hkk (show 0 < kkids.length by rw [hl rfl]; omega)
    have hkl : kkids = [.mk jop jn jname jkids] := one_list (hl rfl) HJ.out
    have hj : ∀ m, (exT m (d' + 1 + 1 + 1)).rep w lo B (.mk jop jn jname jkids) [.int .i64 jop, .int .i64 jn, .string jname, .slice A5 jkids.length p5] := fun m => exT_le m (by omega) (hj' m)
    clear hkk hj' HJ
    subst hkl

    have k0 : ((w.alloc (.cells #[.int .i64 11, .int .i64 n, .string name, .slice (some ⟨blk, 0, none⟩) 1 p] 25)).alloc (.cells #[.int .i64 0, .int .i64 0, .string ⟨#[]⟩, .slice none 0 0] 25)).cell? ⟨blk, 0, none⟩ = some (.int .i64 11) := (hb0.cell (p := ⟨blk, 0, none⟩) (show blk < w.heap.size by omega)).trans (by simpa using c0)
    have k1 : ((w.alloc (.cells #[.int .i64 11, .int .i64 n, .string name, .slice (some ⟨blk, 0, none⟩) 1 p] 25)).alloc (.cells #[.int .i64 0, .int .i64 0, .string ⟨#[]⟩, .slice none 0 0] 25)).cell? ⟨blk, 1, none⟩ = some (.int .i64 kn) := (hb0.cell (p := ⟨blk, 1, none⟩) (show blk < w.heap.size by omega)).trans (by simpa using c1)
    have k2 : ((w.alloc (.cells #[.int .i64 11, .int .i64 n, .string name, .slice (some ⟨blk, 0, none⟩) 1 p] 25)).alloc (.cells #[.int .i64 0, .int .i64 0, .string ⟨#[]⟩, .slice none 0 0] 25)).cell? ⟨blk, 2, none⟩ = some (.string kname) := (hb0.cell (p := ⟨blk, 2, none⟩) (show blk < w.heap.size by omega)).trans (by simpa using c2)
    have k3 : ((w.alloc (.cells #[.int .i64 11, .int .i64 n, .string name, .slice (some ⟨blk, 0, none⟩) 1 p] 25)).alloc (.cells #[.int .i64 0, .int .i64 0, .string ⟨#[]⟩, .slice none 0 0] 25)).cell? ⟨blk, 3, none⟩ = some (.slice (some ⟨blj, 0, none⟩) 1 p3) := (hb0.cell (p := ⟨blk, 3, none⟩) (show blk < w.heap.size by omega)).trans (by simpa using c3)
    have hb1 : Below w.heap.size w (((w.alloc (.cells #[.int .i64 11, .int .i64 n, .string name, .slice (some ⟨blk, 0, none⟩) 1 p] 25)).alloc (.cells #[.int .i64 0, .int .i64 0, .string ⟨#[]⟩, .slice none 0 0] 25)).alloc (.cells #[.int .i64 11, .int .i64 kn, .string kname, .slice (some ⟨blj, 0, none⟩) 1 p3] 25)) := hb0.alloc (by simp; omega) _
    have j0 : ((w.alloc (.cells #[.int .i64 11, .int .i64 n, .string name, .slice (some ⟨blk, 0, none⟩) 1 p] 25)).alloc (.cells #[.int .i64 0, .int .i64 0, .string ⟨#[]⟩, .slice none 0 0] 25)).cell? ⟨blj, 0, none⟩ = some (.int .i64 jop) := (hb0.cell (p := ⟨blj, 0, none⟩) (show blj < w.heap.size by omega)).trans (by simpa using i0)
    have j1 : ((w.alloc (.cells #[.int .i64 11, .int .i64 n, .string name, .slice (some ⟨blk, 0, none⟩) 1 p] 25)).alloc (.cells #[.int .i64 0, .int .i64 0, .string ⟨#[]⟩, .slice none 0 0] 25)).cell? ⟨blj, 1, none⟩ = some (.int .i64 jn) := (hb0.cell (p := ⟨blj, 1, none⟩) (show blj < w.heap.size by omega)).trans (by simpa using i1)
    have j2 : ((w.alloc (.cells #[.int .i64 11, .int .i64 n, .string name, .slice (some ⟨blk, 0, none⟩) 1 p] 25)).alloc (.cells #[.int .i64 0, .int .i64 0, .string ⟨#[]⟩, .slice none 0 0] 25)).cell? ⟨blj, 2, none⟩ = some (.string jname) := (hb0.cell (p := ⟨blj, 2, none⟩) (show blj < w.heap.size by omega)).trans (by simpa using i2)
    have j3 : ((w.alloc (.cells #[.int .i64 11, .int .i64 n, .string name, .slice (some ⟨blk, 0, none⟩) 1 p] 25)).alloc (.cells #[.int .i64 0, .int .i64 0, .string ⟨#[]⟩, .slice none 0 0] 25)).cell? ⟨blj, 3, none⟩ = some (.slice A5 jkids.length p5) := (hb0.cell (p := ⟨blj, 3, none⟩) (show blj < w.heap.size by omega)).trans (by simpa using i3)
    have l0 : (((w.alloc (.cells #[.int .i64 11, .int .i64 n, .string name, .slice (some ⟨blk, 0, none⟩) 1 p] 25)).alloc (.cells #[.int .i64 0, .int .i64 0, .string ⟨#[]⟩, .slice none 0 0] 25)).alloc (.cells #[.int .i64 11, .int .i64 kn, .string kname, .slice (some ⟨blj, 0, none⟩) 1 p3] 25)).cell? ⟨blj, 0, none⟩ = some (.int .i64 jop) := (hb1.cell (p := ⟨blj, 0, none⟩) (show blj < w.heap.size by omega)).trans (by simpa using i0)
    have l1 : (((w.alloc (.cells #[.int .i64 11, .int .i64 n, .string name, .slice (some ⟨blk, 0, none⟩) 1 p] 25)).alloc (.cells #[.int .i64 0, .int .i64 0, .string ⟨#[]⟩, .slice none 0 0] 25)).alloc (.cells #[.int .i64 11, .int .i64 kn, .string kname, .slice (some ⟨blj, 0, none⟩) 1 p3] 25)).cell? ⟨blj, 1, none⟩ = some (.int .i64 jn) := (hb1.cell (p := ⟨blj, 1, none⟩) (show blj < w.heap.size by omega)).trans (by simpa using i1)
    have l2 : (((w.alloc (.cells #[.int .i64 11, .int .i64 n, .string name, .slice (some ⟨blk, 0, none⟩) 1 p] 25)).alloc (.cells #[.int .i64 0, .int .i64 0, .string ⟨#[]⟩, .slice none 0 0] 25)).alloc (.cells #[.int .i64 11, .int .i64 kn, .string kname, .slice (some ⟨blj, 0, none⟩) 1 p3] 25)).cell? ⟨blj, 2, none⟩ = some (.string jname) := (hb1.cell (p := ⟨blj, 2, none⟩) (show blj < w.heap.size by omega)).trans (by simpa using i2)
    have l3 : (((w.alloc (.cells #[.int .i64 11, .int .i64 n, .string name, .slice (some ⟨blk, 0, none⟩) 1 p] 25)).alloc (.cells #[.int .i64 0, .int .i64 0, .string ⟨#[]⟩, .slice none 0 0] 25)).alloc (.cells #[.int .i64 11, .int .i64 kn, .string kname, .slice (some ⟨blj, 0, none⟩) 1 p3] 25)).cell? ⟨blj, 3, none⟩ = some (.slice A5 jkids.length p5) := (hb1.cell (p := ⟨blj, 3, none⟩) (show blj < w.heap.size by omega)).trans (by simpa using i3)
    clear c0 c1 c2 c3 i0 i1 i2 i3
    by_cases qj : jop = 11
    · subst qj
      have EQ : foldP (Ex.mk 11 n name [(Ex.mk 11 kn kname [.mk 11 jn jname jkids])]) = (Ex.mk 11 jn jname jkids) := by
        unfold foldP
        simp [Ex.op, Ex.n, Ex.kids, hd]
      replace EQ := Lib.hid EQ
      clear rk hl
      go_enter Tryd.func48, Tryd.ntmps48
      go_wp2_with fail
      refine bodyPost_ret (v := .agg #[.int .i64 11, .int .i64 jn, .string jname, .slice A5 jkids.length p5]) (by simp [results, Tryd.results48, go_sem]) rfl ?_
      rw [EQ.out]
      exact fold_end (y := (Ex.mk 11 jn jname jkids)) (((Below.refl _ _).alloc (Nat.le_refl _) _).alloc (by simp) _ |>.alloc (by simp; omega) _) hB hj
    · have qj' : (jop == 11) = false := by simpa using qj
      have EQ : foldP (Ex.mk 11 n name [(Ex.mk 11 kn kname [.mk jop jn jname jkids])]) = (Ex.mk 11 n name [Ex.mk 11 kn kname [.mk jop jn jname jkids]]) := by
        unfold foldP
        simp [Ex.op, Ex.n, Ex.kids, hd, qj]
      replace EQ := Lib.hid EQ
      clear rk hl qj
      go_enter Tryd.func48, Tryd.ntmps48
      go_wp2_with fail
      refine bodyPost_ret (v := .agg #[.int .i64 11, .int .i64 n, .string name, .slice (some ⟨blk, 0, none⟩) 1 p]) (by simp [results, Tryd.results48, go_sem]) rfl ?_
      rw [EQ.out]
      exact fold_end (y := (Ex.mk 11 n name [Ex.mk 11 kn kname [.mk jop jn jname jkids]])) (((Below.refl _ _).alloc (Nat.le_refl _) _).alloc (by simp) _ |>.alloc (by simp; omega) _) hB he
  have q1' : (kop == 1) = false := by simpa using q1
  have q11' : (kop == 11) = false := by simpa using q11
  have EQ : foldP (Ex.mk 11 n name [(Ex.mk kop kn kname kkids)]) = (Ex.mk 11 n name [(Ex.mk kop kn kname kkids)]) := by
    unfold foldP
    simp [Ex.op, Ex.n, Ex.kids, hd, q1, q11]
  replace EQ := Lib.hid EQ
  have k0 : ((w.alloc (.cells #[.int .i64 11, .int .i64 n, .string name, .slice (some ⟨blk, 0, none⟩) 1 p] 25)).alloc (.cells #[.int .i64 0, .int .i64 0, .string ⟨#[]⟩, .slice none 0 0] 25)).cell? ⟨blk, 0, none⟩ = some (.int .i64 kop) := (hb0.cell (p := ⟨blk, 0, none⟩) (show blk < w.heap.size by omega)).trans (by simpa using c0)
  have k1 : ((w.alloc (.cells #[.int .i64 11, .int .i64 n, .string name, .slice (some ⟨blk, 0, none⟩) 1 p] 25)).alloc (.cells #[.int .i64 0, .int .i64 0, .string ⟨#[]⟩, .slice none 0 0] 25)).cell? ⟨blk, 1, none⟩ = some (.int .i64 kn) := (hb0.cell (p := ⟨blk, 1, none⟩) (show blk < w.heap.size by omega)).trans (by simpa using c1)
  have k2 : ((w.alloc (.cells #[.int .i64 11, .int .i64 n, .string name, .slice (some ⟨blk, 0, none⟩) 1 p] 25)).alloc (.cells #[.int .i64 0, .int .i64 0, .string ⟨#[]⟩, .slice none 0 0] 25)).cell? ⟨blk, 2, none⟩ = some (.string kname) := (hb0.cell (p := ⟨blk, 2, none⟩) (show blk < w.heap.size by omega)).trans (by simpa using c2)
  have k3 : ((w.alloc (.cells #[.int .i64 11, .int .i64 n, .string name, .slice (some ⟨blk, 0, none⟩) 1 p] 25)).alloc (.cells #[.int .i64 0, .int .i64 0, .string ⟨#[]⟩, .slice none 0 0] 25)).cell? ⟨blk, 3, none⟩ = some (.slice A3 kkids.length p3) := (hb0.cell (p := ⟨blk, 3, none⟩) (show blk < w.heap.size by omega)).trans (by simpa using c3)
  clear rk hl q1 q11 c0 c1 c2 c3
  go_enter Tryd.func48, Tryd.ntmps48
  go_wp2_with fail
  refine bodyPost_ret (v := .agg #[.int .i64 11, .int .i64 n, .string name, .slice (some ⟨blk, 0, none⟩) 1 p]) (by simp [results, Tryd.results48, go_sem]) rfl ?_
  rw [EQ.out]
  exact fold_end (y := (Ex.mk 11 n name [(Ex.mk kop kn kname kkids)])) (((Below.refl _ _).alloc (Nat.le_refl _) _).alloc (by simp) _ |>.alloc (by simp; omega) _) hB he
end Go.Proofs.YthfinoapfbhgcaaDoor

