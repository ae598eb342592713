/-
  An expression with another one in place of a variable: the program's closure. Conditions: the argument reads as data; the captured boxes hold what the program puts there.
-/
import Derived.Test.YtnamciblapddbaaDoorPut
namespace Go.Proofs.YtnamciblapddbaaDoor
open Go.RowKit Go.ChangeShapes Go.WideShapes Go.Deep

set_option linter.unusedVariables false
set_option linter.unusedSimpArgs false
/-- what the closure has captured -/
def Caps (gn gb gp : Nat) (nm : ByteArray) (bcs : Array Value) (w : World) : Prop := Row w gn 9 #[.string nm] ∧ Row w gb 30 bcs ∧ Row w gp 62 #[.func (.func 56) #[] #[.pointer (some ⟨gn, 0, none⟩), .pointer (some ⟨gb, 0, none⟩), .pointer (some ⟨gp, 0, none⟩)]]
theorem Caps.below {gn gb gp : Nat} {nm : ByteArray} {bcs : Array Value} {w w' : World} (h : Caps gn gb gp nm bcs w) (hb : Below w.heap.size w w') : Caps gn gb gp nm bcs w' := ⟨h.1.below hb h.1.lt, h.2.1.below hb h.2.1.lt, h.2.2.below hb h.2.2.lt⟩
def IPutAt (m : Nat) : Prop := ∀ (d : Nat) (op n : Int) (name : ByteArray) (kids : List Ex) (v3 : Value) (nm : ByteArray) (db : Nat) (bop bn : Int) (bname : ByteArray) (bkids : List Ex) (bA : Option Addr) (bp : Nat) (gn gb gp : Nat) (w : World) (lo B lo' B' : Nat) (_ : B ≤ w.heap.size) (_ : B' ≤ w.heap.size) (_ : I64 op) (_ : I64 n) (_ : name.size ≤ maxLen) (_ : Sl false (exS false d) w lo B kids v3) (_ : formB m (.mk op n name kids) = true) (_ : I64 bop) (_ : I64 bn) (_ : bname.size ≤ maxLen) (_ : Sl false (exS false db) w lo' B' bkids (.slice bA bkids.length bp)) (_ : formB 6 (.mk bop bn bname bkids) = true)
    (_ : Caps gn gb gp nm #[.int .i64 bop, .int .i64 bn, .string bname, .slice bA bkids.length bp] w),
  Calls Tryd.prog 56 #[.agg #[.int .i64 op, .int .i64 n, .string name, v3], .pointer (some ⟨gn, 0, none⟩), .pointer (some ⟨gb, 0, none⟩), .pointer (some ⟨gp, 0, none⟩)] w (ToTE (m + 6) (putE m nm (.mk bop bn bname bkids) (.mk op n name kids)) w)
set_option maxRecDepth 100000 in
set_option maxHeartbeats 8000000 in
theorem iput_step (m : Nat) (ih : IPutAt m) : IPutAt (m + 1) := by
  intro d op n name kids v3 nm db bop bn bname bkids bA bp gn gb gp w lo B lo' B' hB hB' ho hn64 hnm h3 hform bo bn64 bnm bh3 bform hc
  rw [formB, Bool.and_eq_true] at hform
  obtain ⟨hfm, hall⟩ := hform
  replace hall := Lib.hid hall
  replace bform := Lib.hid bform
  have hk3 := fmK_len hfm
  clear hfm
  obtain ⟨A, p, hf, hl1, hl2⟩ := h3.form
  subst hf
  have hb2 : Below w.heap.size w ((w.alloc (.cells #[.int .i64 op, .int .i64 n, .string name, .slice A kids.length p] 30)).alloc (.cells #[.int .i64 0, .int .i64 0, .string ⟨#[]⟩, .slice none 0 0] 30)) := ((Below.refl _ _).alloc (Nat.le_refl _) _).alloc (by simp) _
  have R2 : Row ((w.alloc (.cells #[.int .i64 op, .int .i64 n, .string name, .slice A kids.length p] 30)).alloc (.cells #[.int .i64 0, .int .i64 0, .string ⟨#[]⟩, .slice none 0 0] 30)) (w.heap.size) 30 #[.int .i64 op, .int .i64 n, .string name, .slice A kids.length p] := (Row.new w _ _).alloc _
  have S2 : Row ((w.alloc (.cells #[.int .i64 op, .int .i64 n, .string name, .slice A kids.length p] 30)).alloc (.cells #[.int .i64 0, .int .i64 0, .string ⟨#[]⟩, .slice none 0 0] 30)) (w.heap.size + 1) 30 #[.int .i64 0, .int .i64 0, .string ⟨#[]⟩, .slice none 0 0] := by simpa using Row.new (w.alloc (.cells #[.int .i64 op, .int .i64 n, .string name, .slice A kids.length p] 30)) 30 #[.int .i64 0, .int .i64 0, .string ⟨#[]⟩, .slice none 0 0]
  have z2 : w.heap.size + 1 + 1 = ((w.alloc (.cells #[.int .i64 op, .int .i64 n, .string name, .slice A kids.length p] 30)).alloc (.cells #[.int .i64 0, .int .i64 0, .string ⟨#[]⟩, .slice none 0 0] 30)).heap.size := by simp
  have hc2 := hc.below hb2
  obtain ⟨C0, C1, C2⟩ := id hc2
  have k0 : ((w.alloc (.cells #[.int .i64 op, .int .i64 n, .string name, .slice A kids.length p] 30)).alloc (.cells #[.int .i64 0, .int .i64 0, .string ⟨#[]⟩, .slice none 0 0] 30)).cell? ⟨gn, 0, none⟩ = some (.string nm) := C0.cell 0
  have k1 : ((w.alloc (.cells #[.int .i64 op, .int .i64 n, .string name, .slice A kids.length p] 30)).alloc (.cells #[.int .i64 0, .int .i64 0, .string ⟨#[]⟩, .slice none 0 0] 30)).cell? ⟨gp, 0, none⟩ = some (.func (.func 56) #[] #[.pointer (some ⟨gn, 0, none⟩), .pointer (some ⟨gb, 0, none⟩), .pointer (some ⟨gp, 0, none⟩)]) := C2.cell 0
  have kb0 : ((w.alloc (.cells #[.int .i64 op, .int .i64 n, .string name, .slice A kids.length p] 30)).alloc (.cells #[.int .i64 0, .int .i64 0, .string ⟨#[]⟩, .slice none 0 0] 30)).cell? ⟨gb, 0, none⟩ = some (.int .i64 bop) := C1.cell 0
  have kb1 : ((w.alloc (.cells #[.int .i64 op, .int .i64 n, .string name, .slice A kids.length p] 30)).alloc (.cells #[.int .i64 0, .int .i64 0, .string ⟨#[]⟩, .slice none 0 0] 30)).cell? ⟨gb, 1, none⟩ = some (.int .i64 bn) := C1.cell 1
  have kb2 : ((w.alloc (.cells #[.int .i64 op, .int .i64 n, .string name, .slice A kids.length p] 30)).alloc (.cells #[.int .i64 0, .int .i64 0, .string ⟨#[]⟩, .slice none 0 0] 30)).cell? ⟨gb, 2, none⟩ = some (.string bname) := C1.cell 2
  have kb3 : ((w.alloc (.cells #[.int .i64 op, .int .i64 n, .string name, .slice A kids.length p] 30)).alloc (.cells #[.int .i64 0, .int .i64 0, .string ⟨#[]⟩, .slice none 0 0] 30)).cell? ⟨gb, 3, none⟩ = some (.slice bA bkids.length bp) := C1.cell 3
  have fin1 : isV op name nm = true → Calls Tryd.prog 57 #[.agg #[.int .i64 bop, .int .i64 bn, .string bname, .slice bA bkids.length bp]] ((w.alloc (.cells #[.int .i64 op, .int .i64 n, .string name, .slice A kids.length p] 30)).alloc (.cells #[.int .i64 0, .int .i64 0, .string ⟨#[]⟩, .slice none 0 0] 30)) (ToTE (m + 1 + 6) (putE (m + 1) nm (.mk bop bn bname bkids) (.mk op n name kids)) ((w.alloc (.cells #[.int .i64 op, .int .i64 n, .string name, .slice A kids.length p] 30)).alloc (.cells #[.int .i64 0, .int .i64 0, .string ⟨#[]⟩, .slice none 0 0] 30))) := fun hv => by
    rw [putE, if_pos hv]
    exact (impl_cloneExpr 6 db bop bn bname bkids _ _ lo' B' (Nat.le_trans hB' hb2.size) bo bn64 bnm (bh3.below hb2 hB') bform.out).mono fun e w' h => h.more (by omega)
  have fin2 : isV op name nm = false → Hid (putE (m + 1) nm (.mk bop bn bname bkids) (.mk op n name kids) = .mk op n name (kids.map (putE m nm (.mk bop bn bname bkids)))) := fun hv => by
    show _ = _
    rw [putE, if_neg (by rw [hv]; decide)]
  go_enter Tryd.func56, Tryd.ntmps56
  by_cases ho2 : op = 2
  case neg =>
    have q : (op == 2) = false := by simpa using ho2
    have E := fin2 (by unfold isV; rw [q]; rfl)
    clear fin1 fin2 ho2
    go_wp2_with fail
    refine (impl_mapped 56 #[.pointer (some ⟨gn, 0, none⟩), .pointer (some ⟨gb, 0, none⟩), .pointer (some ⟨gp, 0, none⟩)] (putE m nm (Ex.mk bop bn bname bkids)) (m + 6) d kids (.slice A kids.length p) _ lo B (Nat.le_trans hB hb2.size) (by omega) (h3.below hb2 hB) (fun args w => by kernel_rfl) (fun d' op' n' name' kids' v' w' hd hb' g0 g1 g2 g3 hmem => by simpa using ih d' op' n' name' kids' v' nm db bop bn bname bkids bA bp gn gb gp w' lo B lo' B' (Nat.le_trans hB (hb2.trans (hb'.mono hb2.size)).size) (Nat.le_trans hB' (hb2.trans (hb'.mono hb2.size)).size) g0 g1 g2 g3 (List.all_eq_true.1 hall.out _ hmem) bo bn64 bnm (bh3.below (hb2.trans (hb'.mono hb2.size)) hB') bform.out (hc2.below hb'))).mono ?_
    rintro e w1 ⟨v', rfl, hx, b1⟩
    obtain ⟨A', p', hf, _, _⟩ := (hx false).form
    rw [List.length_map] at hf
    subst hf
    have hb1 : Below w.heap.size w w1 := hb2.trans (b1.mono hb2.size)
    have R1 := R2.below b1 R2.lt
    have S1 := S2.below b1 S2.lt
    have z1 : w.heap.size + 1 + 1 ≤ w1.heap.size := z2 ▸ b1.size
    have hy : ∀ m', SlT m' (exT m' (m + 7)) w1 (w.heap.size + 1 + 1) w1.heap.size (kids.map (putE m nm (Ex.mk bop bn bname bkids))) (.slice A' kids.length p') := fun m' => (hx m').more (Nat.le_of_eq z2) (Nat.le_refl _)
    clear z2 k0 k1 kb0 kb1 kb2 kb3
    have r0 : (w1).cell? ⟨w.heap.size, 0, none⟩ = some (.int .i64 op) := R1.cell 0
    have rf0 : (w1).frozen? ⟨w.heap.size, 0, none⟩ = false := R1.frozen 0
    have r1 : (w1).cell? ⟨w.heap.size, 1, none⟩ = some (.int .i64 n) := R1.cell 1
    have rf1 : (w1).frozen? ⟨w.heap.size, 1, none⟩ = false := R1.frozen 1
    have r2 : (w1).cell? ⟨w.heap.size, 2, none⟩ = some (.string name) := R1.cell 2
    have rf2 : (w1).frozen? ⟨w.heap.size, 2, none⟩ = false := R1.frozen 2
    have r3 : (w1).cell? ⟨w.heap.size, 3, none⟩ = some (.slice A kids.length p) := R1.cell 3
    have rf3 : (w1).frozen? ⟨w.heap.size, 3, none⟩ = false := R1.frozen 3
    have s0 : (w1).cell? ⟨w.heap.size + 1, 0, none⟩ = some (.int .i64 0) := S1.cell 0
    have sf0 : (w1).frozen? ⟨w.heap.size + 1, 0, none⟩ = false := S1.frozen 0
    have s1 : (w1).cell? ⟨w.heap.size + 1, 1, none⟩ = some (.int .i64 0) := S1.cell 1
    have sf1 : (w1).frozen? ⟨w.heap.size + 1, 1, none⟩ = false := S1.frozen 1
    have s2 : (w1).cell? ⟨w.heap.size + 1, 2, none⟩ = some (.string ⟨#[]⟩) := S1.cell 2
    have sf2 : (w1).frozen? ⟨w.heap.size + 1, 2, none⟩ = false := S1.frozen 2
    have s3 : (w1).cell? ⟨w.heap.size + 1, 3, none⟩ = some (.slice none 0 0) := S1.cell 3
    have sf3 : (w1).frozen? ⟨w.heap.size + 1, 3, none⟩ = false := S1.frozen 3
    go_wp2_with fail
    refine bodyPost_ret (v := .agg #[.int .i64 op, .int .i64 n, .string name, .slice A' kids.length p']) (by simp [results, Tryd.results56, go_sem, s0, s1, s2, s3]) rfl ?_
    unfold ToTE
    rw [E.out]
    refine ⟨_, rfl, fun m' => ?_, ?_⟩
    · exact exT_mk m' (m + 7) op n name _ _ ho hn64 hnm ((hy m').keep (by omega) (by simp [World.setCell]) ((((((Same.refl _ _ _).setCell (p := ⟨w.heap.size, 3, none⟩) (.inl (by first | omega | (simp; omega) | simp)) (.slice A' kids.length p')).setCell (p := ⟨w.heap.size + 1, 0, none⟩) (.inl (by first | omega | (simp; omega) | simp)) (.int .i64 op)).setCell (p := ⟨w.heap.size + 1, 1, none⟩) (.inl (by first | omega | (simp; omega) | simp)) (.int .i64 n)).setCell (p := ⟨w.heap.size + 1, 2, none⟩) (.inl (by first | omega | (simp; omega) | simp)) (.string name)).setCell (p := ⟨w.heap.size + 1, 3, none⟩) (.inl (by first | omega | (simp; omega) | simp)) (.slice A' kids.length p')))
    · exact (((((hb1.setCell (p := ⟨w.heap.size, 3, none⟩) (by first | omega | (simp; omega) | simp) (.slice A' kids.length p')).setCell (p := ⟨w.heap.size + 1, 0, none⟩) (by first | omega | (simp; omega) | simp) (.int .i64 op)).setCell (p := ⟨w.heap.size + 1, 1, none⟩) (by first | omega | (simp; omega) | simp) (.int .i64 n)).setCell (p := ⟨w.heap.size + 1, 2, none⟩) (by first | omega | (simp; omega) | simp) (.string name)).setCell (p := ⟨w.heap.size + 1, 3, none⟩) (by first | omega | (simp; omega) | simp) (.slice A' kids.length p'))
  subst ho2
  by_cases hnn : (name.toList == nm.toList) = true
  case neg =>
    have q : (name.toList == nm.toList) = false := by simpa using hnn
    have E := fin2 (by unfold isV; rw [q]; rfl)
    clear fin1 fin2 hnn
    go_wp2_with fail
    refine (impl_mapped 56 #[.pointer (some ⟨gn, 0, none⟩), .pointer (some ⟨gb, 0, none⟩), .pointer (some ⟨gp, 0, none⟩)] (putE m nm (Ex.mk bop bn bname bkids)) (m + 6) d kids (.slice A kids.length p) _ lo B (Nat.le_trans hB hb2.size) (by omega) (h3.below hb2 hB) (fun args w => by kernel_rfl) (fun d' op' n' name' kids' v' w' hd hb' g0 g1 g2 g3 hmem => by simpa using ih d' op' n' name' kids' v' nm db bop bn bname bkids bA bp gn gb gp w' lo B lo' B' (Nat.le_trans hB (hb2.trans (hb'.mono hb2.size)).size) (Nat.le_trans hB' (hb2.trans (hb'.mono hb2.size)).size) g0 g1 g2 g3 (List.all_eq_true.1 hall.out _ hmem) bo bn64 bnm (bh3.below (hb2.trans (hb'.mono hb2.size)) hB') bform.out (hc2.below hb'))).mono ?_
    rintro e w1 ⟨v', rfl, hx, b1⟩
    obtain ⟨A', p', hf, _, _⟩ := (hx false).form
    rw [List.length_map] at hf
    subst hf
    have hb1 : Below w.heap.size w w1 := hb2.trans (b1.mono hb2.size)
    have R1 := R2.below b1 R2.lt
    have S1 := S2.below b1 S2.lt
    have z1 : w.heap.size + 1 + 1 ≤ w1.heap.size := z2 ▸ b1.size
    have hy : ∀ m', SlT m' (exT m' (m + 7)) w1 (w.heap.size + 1 + 1) w1.heap.size (kids.map (putE m nm (Ex.mk bop bn bname bkids))) (.slice A' kids.length p') := fun m' => (hx m').more (Nat.le_of_eq z2) (Nat.le_refl _)
    clear z2 k0 k1 kb0 kb1 kb2 kb3
    have r0 : (w1).cell? ⟨w.heap.size, 0, none⟩ = some (.int .i64 2) := R1.cell 0
    have rf0 : (w1).frozen? ⟨w.heap.size, 0, none⟩ = false := R1.frozen 0
    have r1 : (w1).cell? ⟨w.heap.size, 1, none⟩ = some (.int .i64 n) := R1.cell 1
    have rf1 : (w1).frozen? ⟨w.heap.size, 1, none⟩ = false := R1.frozen 1
    have r2 : (w1).cell? ⟨w.heap.size, 2, none⟩ = some (.string name) := R1.cell 2
    have rf2 : (w1).frozen? ⟨w.heap.size, 2, none⟩ = false := R1.frozen 2
    have r3 : (w1).cell? ⟨w.heap.size, 3, none⟩ = some (.slice A kids.length p) := R1.cell 3
    have rf3 : (w1).frozen? ⟨w.heap.size, 3, none⟩ = false := R1.frozen 3
    have s0 : (w1).cell? ⟨w.heap.size + 1, 0, none⟩ = some (.int .i64 0) := S1.cell 0
    have sf0 : (w1).frozen? ⟨w.heap.size + 1, 0, none⟩ = false := S1.frozen 0
    have s1 : (w1).cell? ⟨w.heap.size + 1, 1, none⟩ = some (.int .i64 0) := S1.cell 1
    have sf1 : (w1).frozen? ⟨w.heap.size + 1, 1, none⟩ = false := S1.frozen 1
    have s2 : (w1).cell? ⟨w.heap.size + 1, 2, none⟩ = some (.string ⟨#[]⟩) := S1.cell 2
    have sf2 : (w1).frozen? ⟨w.heap.size + 1, 2, none⟩ = false := S1.frozen 2
    have s3 : (w1).cell? ⟨w.heap.size + 1, 3, none⟩ = some (.slice none 0 0) := S1.cell 3
    have sf3 : (w1).frozen? ⟨w.heap.size + 1, 3, none⟩ = false := S1.frozen 3
    go_wp2_with fail
    refine bodyPost_ret (v := .agg #[.int .i64 2, .int .i64 n, .string name, .slice A' kids.length p']) (by simp [results, Tryd.results56, go_sem, s0, s1, s2, s3]) rfl ?_
    unfold ToTE
    rw [E.out]
    refine ⟨_, rfl, fun m' => ?_, ?_⟩
    · exact exT_mk m' (m + 7) 2 n name _ _ ho hn64 hnm ((hy m').keep (by omega) (by simp [World.setCell]) ((((((Same.refl _ _ _).setCell (p := ⟨w.heap.size, 3, none⟩) (.inl (by first | omega | (simp; omega) | simp)) (.slice A' kids.length p')).setCell (p := ⟨w.heap.size + 1, 0, none⟩) (.inl (by first | omega | (simp; omega) | simp)) (.int .i64 2)).setCell (p := ⟨w.heap.size + 1, 1, none⟩) (.inl (by first | omega | (simp; omega) | simp)) (.int .i64 n)).setCell (p := ⟨w.heap.size + 1, 2, none⟩) (.inl (by first | omega | (simp; omega) | simp)) (.string name)).setCell (p := ⟨w.heap.size + 1, 3, none⟩) (.inl (by first | omega | (simp; omega) | simp)) (.slice A' kids.length p')))
    · exact (((((hb1.setCell (p := ⟨w.heap.size, 3, none⟩) (by first | omega | (simp; omega) | simp) (.slice A' kids.length p')).setCell (p := ⟨w.heap.size + 1, 0, none⟩) (by first | omega | (simp; omega) | simp) (.int .i64 2)).setCell (p := ⟨w.heap.size + 1, 1, none⟩) (by first | omega | (simp; omega) | simp) (.int .i64 n)).setCell (p := ⟨w.heap.size + 1, 2, none⟩) (by first | omega | (simp; omega) | simp) (.string name)).setCell (p := ⟨w.heap.size + 1, 3, none⟩) (by first | omega | (simp; omega) | simp) (.slice A' kids.length p'))
  have IV : isV 2 name nm = true := by unfold isV; rw [hnn]; rfl
  have q := hnn
  replace IV := Lib.hid IV
  replace fin1 := Lib.hid fin1
  clear fin2 hnn
  go_wp2_with fail
  refine (fin1.out IV.out).mono ?_
  rintro e w1 ⟨v3', he, hx, b1⟩
  obtain ⟨y, hyy⟩ : ∃ y, putE (m + 1) nm (Ex.mk bop bn bname bkids) (Ex.mk 2 n name kids) = y := ⟨_, rfl⟩
  rw [hyy] at he hx
  replace hyy := Lib.hid hyy
  obtain ⟨Ay, py, hf, _, _⟩ := (exT_kids (m + 1 + 6) (hx false)).form
  subst hf
  subst he
  have hb1 : Below w.heap.size w w1 := hb2.trans (b1.mono hb2.size)
  have S1 := S2.below b1 S2.lt
  have z1 : w.heap.size + 1 + 1 ≤ w1.heap.size := z2 ▸ b1.size
  have hy : ∀ m', (exT m' (m + 1 + 6 + 1)).rep w1 (w.heap.size + 1 + 1) w1.heap.size y [.int .i64 y.op, .int .i64 y.n, .string y.name, .slice Ay y.kids.length py] := fun m' => (exT m' (m + 1 + 6 + 1)).more (hx m') (Nat.le_of_eq z2) (Nat.le_refl _)
  clear z2 hx
  have s0 : (w1).cell? ⟨w.heap.size + 1, 0, none⟩ = some (.int .i64 0) := S1.cell 0
  have sf0 : (w1).frozen? ⟨w.heap.size + 1, 0, none⟩ = false := S1.frozen 0
  have s1 : (w1).cell? ⟨w.heap.size + 1, 1, none⟩ = some (.int .i64 0) := S1.cell 1
  have sf1 : (w1).frozen? ⟨w.heap.size + 1, 1, none⟩ = false := S1.frozen 1
  have s2 : (w1).cell? ⟨w.heap.size + 1, 2, none⟩ = some (.string ⟨#[]⟩) := S1.cell 2
  have sf2 : (w1).frozen? ⟨w.heap.size + 1, 2, none⟩ = false := S1.frozen 2
  have s3 : (w1).cell? ⟨w.heap.size + 1, 3, none⟩ = some (.slice none 0 0) := S1.cell 3
  have sf3 : (w1).frozen? ⟨w.heap.size + 1, 3, none⟩ = false := S1.frozen 3
  go_wp2_with fail
  refine bodyPost_ret (v := .agg #[.int .i64 y.op, .int .i64 y.n, .string y.name, .slice Ay y.kids.length py]) (by simp [results, Tryd.results56, go_sem, s0, s1, s2, s3]) rfl ?_
  unfold ToTE
  rw [hyy.out]
  refine ⟨_, rfl, fun m' => ?_, ?_⟩
  · exact (exT m' (m + 1 + 6 + 1)).keep (hy m') (by omega) (by simp [World.setCell]) (((((Same.refl _ _ _).setCell (p := ⟨w.heap.size + 1, 0, none⟩) (.inl (by first | omega | (simp; omega) | simp)) (.int .i64 y.op)).setCell (p := ⟨w.heap.size + 1, 1, none⟩) (.inl (by first | omega | (simp; omega) | simp)) (.int .i64 y.n)).setCell (p := ⟨w.heap.size + 1, 2, none⟩) (.inl (by first | omega | (simp; omega) | simp)) (.string y.name)).setCell (p := ⟨w.heap.size + 1, 3, none⟩) (.inl (by first | omega | (simp; omega) | simp)) (.slice Ay y.kids.length py))
  · exact ((((hb1.setCell (p := ⟨w.heap.size + 1, 0, none⟩) (by first | omega | (simp; omega) | simp) (.int .i64 y.op)).setCell (p := ⟨w.heap.size + 1, 1, none⟩) (by first | omega | (simp; omega) | simp) (.int .i64 y.n)).setCell (p := ⟨w.heap.size + 1, 2, none⟩) (by first | omega | (simp; omega) | simp) (.string y.name)).setCell (p := ⟨w.heap.size + 1, 3, none⟩) (by first | omega | (simp; omega) | simp) (.slice Ay y.kids.length py))
theorem impl_put : ∀ m : Nat, IPutAt m
  | 0 => fun d op n name kids v3 nm db bop bn bname bkids bA bp gn gb gp w lo B lo' B' _ _ _ _ _ _ h => by simp [formB] at h
  | m + 1 => iput_step m (impl_put m)
end Go.Proofs.YtnamciblapddbaaDoor

