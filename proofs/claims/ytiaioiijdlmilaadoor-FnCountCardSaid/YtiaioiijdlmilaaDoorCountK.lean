/-
  Words of a kind are counted: by the program and by the reference. Condition: the words read as data.
-/
import Derived.Test.YtiaioiijdlmilaaDoorDraw3
namespace Go.Proofs.YtiaioiijdlmilaaDoor
open Go.RowKit Go.ChangeShapes Go.WideShapes Go.Deep
set_option linter.unusedVariables false
set_option linter.unusedSimpArgs false
def cntK (x : Int) (l : List WordD) : Nat := (l.filter fun a => a.kind == x).length
theorem cntK_le (x : Int) (l : List WordD) : cntK x l ≤ l.length := List.length_filter_le _ _
theorem cntK_step {x : Int} {l : List WordD} {k : Nat} (h : k < l.length) : cntK x (l.take (k + 1)) = cntK x (l.take k) + (if (l[k].kind == x) = true then 1 else 0) := by
  unfold cntK
  rw [← List.take_append_getElem h, List.filter_append, List.length_append]
  congr 1
  cases hb : l[k].kind == x <;> simp [List.filter_cons, hb]
set_option maxRecDepth 100000 in
theorem impl_CountKind (l : List WordD) (x : Int) (v : Value) (w : World) (lo B : Nat) (hB : B ≤ w.heap.size) (hv : Sl false (wordS false) w lo B l v) :
    Calls Tryd.prog 21 #[v, .int .i64 x] w (RetV (.int .i64 (cntK x l : Int)) w) := by
  obtain ⟨A, cap, rfl, hlc, hcm⟩ := hv.form
  go_enter Tryd.func21, Tryd.ntmps21
  go_wp2_with fail
  go_loopw [5, 10] (fun c i wr => ∃ k : Nat, k ≤ l.length ∧ i = .int .i64 k ∧ c = .int .i64 (cntK x (l.take k) : Int) ∧ Below w.heap.size w wr) (fun _ i _ => l.length - (intOf i).toNat)
  case atStart => exact ⟨0, by omega, rfl, rfl, Below.refl _ _⟩
  case round =>
    obtain ⟨k, hk, rfl, rfl, hb⟩ := hrel
    have hsz := hb.size
    by_cases hkl : k < l.length
    · obtain ⟨b, o, kind, text, hA, _, _, HL, _, _, c0, c1⟩ := word_get (hv.below hb hB) hkl
      subst hA
      have hkn : (k : Int) < (l.length : Int) := by omega
      have hst := cntK_step (x := x) hkl
      have hle := cntK_le x (l.take k)
      rw [List.length_take] at hle
      rw [show l[k].kind = kind by rw [HL.out]] at hst
      have HS := Lib.hid hst
      obtain ⟨c, hc⟩ : ∃ c, cntK x (l.take k) = c := ⟨_, rfl⟩
      rw [hc] at hle ⊢
      have HC := Lib.hid hc
      clear hst hc HL
      by_cases he : kind = x
      · have q : (kind == x) = true := by simpa using he
        have HN : Hid (cntK x (l.take (k + 1)) = c + 1) := by
          have h1 := HS.out
          rw [HC.out, if_pos q] at h1
          exact h1
        subst he
        clear HS
        go_wp2_with fail
        go_roundw
        case rel => exact ⟨k + 1, by omega, by go_num, by rw [HN.out] <;> go_num, hb.alloc hb.size _⟩
        case measure => simp [intOf]; omega
      · have q : (kind == x) = false := by simpa using he
        have HN : Hid (cntK x (l.take (k + 1)) = c) := by
          have h1 := HS.out
          rw [HC.out, if_neg (by rw [q]; decide)] at h1
          exact h1
        clear he HS
        go_wp2_with fail
        go_roundw
        case rel => exact ⟨k + 1, by omega, by go_num, by rw [HN.out], hb.alloc hb.size _⟩
        case measure => simp [intOf]; omega
    · obtain rfl : k = l.length := by omega
      go_wp2_with fail
      go_ret
      exact RetV.mk (by rw [List.take_length] <;> rfl) rfl hb
set_option maxRecDepth 100000 in
theorem spec_CountKind (l : List WordD) (x : Int) (v : Value) (w : World) (lo B : Nat) (hB : B ≤ w.heap.size) (hv : Sl false (wordS false) w lo B l v) :
    Calls Tryd.prog 22 #[v, .int .i64 x] w (RetV (.int .i64 (cntK x l : Int)) w) := by
  obtain ⟨A, cap, rfl, hlc, hcm⟩ := hv.form
  go_enter Tryd.func22, Tryd.ntmps22
  go_wp2_with fail
  go_loopw [5, 6] (fun c i wr => ∃ k : Nat, k ≤ l.length ∧ i = .int .i64 k ∧ c = .int .i64 (cntK x (l.take k) : Int) ∧ Below w.heap.size w wr) (fun _ i _ => l.length - (intOf i).toNat)
  case atStart => exact ⟨0, by omega, rfl, rfl, Below.refl _ _⟩
  case round =>
    obtain ⟨k, hk, rfl, rfl, hb⟩ := hrel
    have hsz := hb.size
    by_cases hkl : k < l.length
    · obtain ⟨b, o, kind, text, hA, _, _, HL, _, _, c0, c1⟩ := word_get (hv.below hb hB) hkl
      subst hA
      have hkn : (k : Int) < (l.length : Int) := by omega
      have hst := cntK_step (x := x) hkl
      have hle := cntK_le x (l.take k)
      rw [List.length_take] at hle
      rw [show l[k].kind = kind by rw [HL.out]] at hst
      have HS := Lib.hid hst
      obtain ⟨c, hc⟩ : ∃ c, cntK x (l.take k) = c := ⟨_, rfl⟩
      rw [hc] at hle ⊢
      have HC := Lib.hid hc
      clear hst hc HL
      by_cases he : kind = x
      · have q : (kind == x) = true := by simpa using he
        have HN : Hid (cntK x (l.take (k + 1)) = c + 1) := by
          have h1 := HS.out
          rw [HC.out, if_pos q] at h1
          exact h1
        subst he
        clear HS
        go_wp2_with fail
        go_roundw
        case rel => exact ⟨k + 1, by omega, by go_num, by rw [HN.out] <;> go_num, hb⟩
        case measure => simp [intOf]; omega
      · have q : (kind == x) = false := by simpa using he
        have HN : Hid (cntK x (l.take (k + 1)) = c) := by
          have h1 := HS.out
          rw [HC.out, if_neg (by rw [q]; decide)] at h1
          exact h1
        clear he HS
        go_wp2_with fail
        go_roundw
        case rel => exact ⟨k + 1, by omega, by go_num, by rw [HN.out], hb⟩
        case measure => simp [intOf]; omega
    · obtain rfl : k = l.length := by omega
      go_wp2_with fail
      go_ret
      exact RetV.mk (by rw [List.take_length] <;> rfl) rfl hb
end Go.Proofs.YtiaioiijdlmilaaDoor
