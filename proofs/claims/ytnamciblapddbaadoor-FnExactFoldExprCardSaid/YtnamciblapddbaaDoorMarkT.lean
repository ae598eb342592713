/-
  The text of a mark. Condition: the mark is no great number.
-/
import Derived.Test.YtnamciblapddbaaDoorName
import Derived.Laws.BytesArg
namespace Go.Proofs.YtnamciblapddbaaDoor
open Go.RowKit Go.ChangeShapes Go.WideShapes Go.Deep
set_option linter.unusedSimpArgs false
set_option linter.unusedVariables false
theorem ba_of {a b : ByteArray} (h : a.data.toList = b.data.toList) : a = b := by
  obtain ⟨x⟩ := a
  obtain ⟨y⟩ := b
  have : x = y := Array.ext' h
  rw [this]
/-- the digits of a number, none of 0 -/
def decs (k : Nat) : List UInt8 := if h : 0 < k then decs (k / 10) ++ [48 + UInt8.ofNat (k % 10)] else []
termination_by k
decreasing_by omega
theorem decs_step {k : Nat} (h : 0 < k) : decs k = decs (k / 10) ++ [48 + UInt8.ofNat (k % 10)] := by
  rw [decs, dif_pos h]
theorem decs_zero : decs 0 = [] := by
  rw [decs, dif_neg (by omega)]
/-- the text of mark k -/
def mtx (k : Nat) : ByteArray := if k = 0 then ⟨#[109, 48]⟩ else ⟨(109 :: decs k).toArray⟩
theorem u8_str (w : World) (D : Int) : (convert 78 9 (.slice (some ⟨w.heap.size, 0, none⟩) 1 1)).run Tryd.prog (w.alloc (.cells #[.int .u8 D] 5)) = .ok (.string ⟨#[UInt8.ofNat D.toNat]⟩) (w.alloc (.cells #[.int .u8 D] 5)) := by
  have h := run_convert_bytes_arg (P := Tryd.prog) (w.alloc (.cells #[.int .u8 D] 5)) 78 5 Tryd.underlying78 Tryd.underlying5 w.heap.size 0 1 1 [D] rfl (fun i hi => by
    obtain rfl : i = 0 := by omega
    exact (Row.new w 5 #[.int .u8 D]).cell 0) 9 Tryd.underlying9
  exact h
theorem mark_Text (k : Nat) (w : World) (hk : k ≤ 1073741824) :
    Calls Tryd.prog 54 #[.int .i64 (k : Int)] w (RetV (.string (mtx k)) w) := by
  by_cases h0 : k = 0
  · subst h0
    go_enter Tryd.func54, Tryd.ntmps54
    go_wp2_with fail
    go_ret
    exact RetV.mk rfl rfl (Below.refl _ _)
  · have hk0 : (0 : Int) < (k : Int) := by omega
    have hk0' : decide ((k : Int) ≤ 0) = false := by simp; omega
    have EM : Hid (mtx k = ⟨#[109] ++ (decs k).toArray⟩) := by show _ = _; unfold mtx; rw [if_neg h0]; simp
    clear h0
    go_enter Tryd.func54, Tryd.ntmps54
    go_wp2_with fail
    go_loopw [0, 3] (fun t v wr => ∃ (j : Nat) (s : ByteArray), t = .int .i64 (j : Int) ∧ v = .string s ∧ Hid (decs k = decs j ++ s.data.toList) ∧ s.size + j ≤ k ∧ Below w.heap.size w wr) (fun t _ _ => (intOf t).toNat)
    case atStart => exact ⟨k, ⟨#[]⟩, rfl, rfl, (by show _ = _; simp), by simp [ByteArray.size], Below.refl _ _⟩
    case round =>
      obtain ⟨j, s, rfl, rfl, HT, hs, hb⟩ := hrel
      by_cases hj : 0 < j
      · have hj0 : (0 : Int) < (j : Int) := by omega
        have hcv := u8_str wr
        have E : Hid (decs k = decs (j / 10) ++ (⟨#[48 + UInt8.ofNat (j % 10)]⟩ ++ s : ByteArray).data.toList) := by
          have h1 := HT.out
          rw [decs_step hj] at h1
          show _ = _
          rw [h1]
          simp
        clear HT
        go_wp2_with fail
        go_roundw
        case rel => exact ⟨j / 10, _, by go_num, rfl, E, by have hsz : (⟨#[48 + UInt8.ofNat (j % 10)]⟩ ++ s : ByteArray).size = 1 + s.size := ByteArray.size_append; rw [hsz]; omega, hb.alloc hb.size _⟩
        case measure => simp [intOf]; omega
      · have hj0 : decide ((0 : Int) < (j : Int)) = false := by simp; omega
        obtain rfl : j = 0 := by omega
        have E : Hid (mtx k = ⟨#[109]⟩ ++ s) := by
          have h1 := HT.out
          rw [decs_zero, List.nil_append] at h1
          show _ = _
          rw [EM.out, h1]
          exact ba_of (by simp)
        clear HT
        go_wp2_with fail
        go_ret
        exact RetV.mk (by rw [E.out] <;> rfl) rfl hb
end Go.Proofs.YtnamciblapddbaaDoor
