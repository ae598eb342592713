/-
  CountKind, the program's and the reference's: how many words are of a kind; and the law FnExactCountKind: it returns true for all arguments. No condition.
-/
import Derived.Test.YtcmcpipcafjiaaaWordLists
namespace Go.Proofs.Ytcmcpipcafjiaaa
open Go.RowKit Go.ChangeShapes Go.WideShapes Go.Deep

def countK (l : List (Int × ByteArray)) (k : Int) : Nat := (l.filter fun p => p.1 == k).length
theorem countK_snoc (l : List (Int × ByteArray)) (p : Int × ByteArray) (k : Int) : countK (l ++ [p]) k = countK l k + if p.1 = k then 1 else 0 := by
  unfold countK
  rw [List.filter_append]
  by_cases h : p.1 = k <;> simp [h]
theorem countK_le (l : List (Int × ByteArray)) (k : Int) : countK l k ≤ l.length := List.length_filter_le _ _

theorem specCount_any (l : List (Int × ByteArray)) (v : Value) (kind : Int) (w : World) (hlen : l.length ≤ 1048576) (hv : Sl wordS w w.heap.size l v) :
    Calls Try.prog 6 #[v, .int .i64 kind] w fun e w' => e = .returned (.int .i64 (countK l kind)) ∧ Below w.heap.size w w' := by
  obtain ⟨b, o, cap, A, rfl, hlc, hcm, hA, hB⟩ := hv.form
  clear hA hB
  unfold maxLen at hcm
  go_enter Try.func6, Try.ntmps6
  go_wp2_with fail
  go_loop [5, 6] (fun n i => ∃ k : Nat, k ≤ l.length ∧ i = .int .i64 k ∧ n = .int .i64 (countK (l.take k) kind)) (fun _ i => l.length - (intOf i).toNat)
  case atStart => exact ⟨0, by omega, rfl, rfl⟩
  case round =>
    obtain ⟨k, hk, rfl, rfl⟩ := hrel
    by_cases hkl : k < l.length
    · obtain ⟨b', o', kk, s, rfl, hbB, hlk, hkk, hss, c0, c1⟩ := word_at hv hkl
      have HL : Hid (countK (l.take (k + 1)) kind = countK (l.take k) kind + if kk = kind then 1 else 0) := by
        rw [List.take_succ_eq_append_getElem hkl, countK_snoc, hlk]; rfl
      have hle := Nat.le_trans (countK_le (l.take k) kind) (List.length_take_le _ _)
      clear hlk
      generalize countK (l.take k) kind = c at *
      by_cases hkd : kk = kind
      · have ht : (kk == kind) = true := by simpa using hkd
        clear hkd
        go_wp2_with fail
        go_round
        case rel => exact ⟨k + 1, by omega, by go_num, by rw [HL.out, if_pos (by simpa using ht)]; go_num⟩
        case measure => simp [intOf]; omega
      · have ht : (kk == kind) = false := by simpa using hkd
        clear hkd
        go_wp2_with fail
        go_round
        case rel => exact ⟨k + 1, by omega, by go_num, by rw [HL.out, if_neg (by simpa using ht)]; rfl⟩
        case measure => simp [intOf]; omega
    · obtain rfl : k = l.length := by omega
      go_wp2_with fail
      go_ret
      exact ⟨rfl, Below.refl _ _⟩

theorem implCount_any (l : List (Int × ByteArray)) (v : Value) (kind : Int) (w : World) (hlen : l.length ≤ 1048576) (hv : Sl wordS w w.heap.size l v) :
    Calls Try.prog 8 #[v, .int .i64 kind] w fun e w' => e = .returned (.int .i64 (countK l kind)) ∧ Below w.heap.size w w' := by
  obtain ⟨b, o, cap, A, rfl, hlc, hcm, hA, hB⟩ := hv.form
  clear hA hB
  unfold maxLen at hcm
  go_enter Try.func8, Try.ntmps8
  go_wp2_with fail
  go_loopw [5, 10] (fun n i wr => ∃ k : Nat, k ≤ l.length ∧ i = .int .i64 k ∧ n = .int .i64 (countK (l.take k) kind) ∧ Below w.heap.size w wr) (fun _ i _ => l.length - (intOf i).toNat)
  case atStart => exact ⟨0, by omega, rfl, rfl, Below.refl _ _⟩
  case round =>
    obtain ⟨k, hk, rfl, rfl, hb⟩ := hrel
    by_cases hkl : k < l.length
    · obtain ⟨b', o', kk, s, rfl, hbB, hlk, hkk, hss, c0, c1⟩ := word_at (hv.below hb) hkl
      have HL : Hid (countK (l.take (k + 1)) kind = countK (l.take k) kind + if kk = kind then 1 else 0) := by
        rw [List.take_succ_eq_append_getElem hkl, countK_snoc, hlk]; rfl
      have hle := Nat.le_trans (countK_le (l.take k) kind) (List.length_take_le _ _)
      have hsz := hb.size
      clear hlk
      generalize countK (l.take k) kind = c at *
      by_cases hkd : kk = kind
      · have ht : (kk == kind) = true := by simpa using hkd
        clear hkd
        go_wp2_with fail
        go_roundw
        case rel => exact ⟨k + 1, by omega, by go_num, by rw [HL.out, if_pos (by simpa using ht)]; go_num, hb.alloc hsz _⟩
        case measure => simp [intOf]; omega
      · have ht : (kk == kind) = false := by simpa using hkd
        clear hkd
        go_wp2_with fail
        go_roundw
        case rel => exact ⟨k + 1, by omega, by go_num, by rw [HL.out, if_neg (by simpa using ht)]; rfl, hb.alloc hsz _⟩
        case measure => simp [intOf]; omega
    · obtain rfl : k = l.length := by omega
      go_wp2_with fail
      go_ret
      exact ⟨by rw [List.take_of_length_le (Nat.le_refl _)]; rfl, hb⟩

theorem lawCount_any (l : List (Int × ByteArray)) (v : Value) (kind : Int) (w : World) (hv : Sl wordS w w.heap.size l v) :
    Calls Try.prog 4 #[v, .int .i64 kind] w fun e w' => e = .returned (.bool true) ∧ Below w.heap.size w w' := by
  go_enter Try.func4, Try.ntmps4
  go_wp2_with fail
  refine (szWordS_any l v 1048576 (by omega) (by omega) w hv).mono ?_
  rintro e w1 ⟨r, rfl, hr1, hr2, hb1, hfit⟩
  by_cases hr : r < 0
  · clear hfit
    go_wp2_with fail
    go_ret
    exact ⟨rfl, hb1⟩
  · obtain ⟨hlen, _⟩ := hfit (by omega)
    have hlen' : l.length ≤ 1048576 := by omega
    go_wp2_with fail
    refine (toWordS_any l v hlen' w1 ((hv.below hb1).more hb1.size)).mono ?_
    rintro e w2 ⟨x1, rfl, hx1, hb2⟩
    go_wp2_with fail
    refine (specCount_any l x1 kind w2 hlen' hx1).mono ?_
    rintro e w3 ⟨rfl, hb3⟩
    have hc2 : Below w.heap.size w w2 := hb1.trans (hb2.mono hb1.size)
    have hc3 : Below w.heap.size w w3 := hc2.trans (hb3.mono hc2.size)
    go_wp2_with fail
    refine (toWordS_any l v hlen' w3 ((hv.below hc3).more hc3.size)).mono ?_
    rintro e w4 ⟨x2, rfl, hx2, hb4⟩
    have hc4 : Below w.heap.size w w4 := hc3.trans (hb4.mono hc3.size)
    go_wp2_with fail
    refine (implCount_any l x2 kind w4 hlen' hx2).mono ?_
    rintro e w5 ⟨rfl, hb5⟩
    have hc5 : Below w.heap.size w w5 := hc4.trans (hb5.mono hc4.size)
    go_wp2_with fail
    refine (toWordS_any l v hlen' w5 ((hv.below hc5).more hc5.size)).mono ?_
    rintro e w6 ⟨x3, rfl, hx3, hb6⟩
    have hc6 : Below w.heap.size w w6 := hc5.trans (hb6.mono hc5.size)
    go_wp2_with fail
    refine (eqWordS_same l x2 x3 w6 (((hx2.below hb5).more hb5.size |>.below hb6).more hb6.size) hx3).mono ?_
    rintro e w7 ⟨rfl, hb7⟩
    have hc7 : Below w.heap.size w w7 := hc6.trans (hb7.mono hc6.size)
    go_wp2_with fail
    go_ret
    exact ⟨rfl, hc7⟩

theorem law_count_lifted (os : Os) (started : os.Started) (H : Type) (enc : TypeId × Value → H) :
    ReturnsInHanded {} Try.checked os 4 .any (Rows.fnExactCountKindSpec.pre6 enc Try.prog Try.f4 Rows.fnExactCountKindRow.domain false) (Rows.fnExactCountKindSpec.post enc Try.prog Try.f4 false true false false) := by
  refine returnsInHanded_of_change (C := Try.checked) own started (by kernel_rfl) Try.func4
    (ChangeSpec.witness6 (enc := enc) (C := Try.checked) false ⟨#[], #[.slice none 0 0, .int .i64 0], []⟩ 8 (by kernel_rfl) (by kernel_rfl) (by kernel_rfl) (by kernel_rfl)) ?_
  intro W base args ds gs before hval0 hW hcnd _
  have hval : ∀ (j : Nat) t v, Try.f4.params[j]? = some t → args[j]? = some v → Value.okWide Try.prog W .any base t v := hval0
  obtain ⟨p, q, hA0, hV, hrest⟩ := id hW
  have hA : DataW.TrodAll enc Try.prog W 0 (fun _ => true) true Try.f4.params.toList args.toList ds p := hA0
  rw [Try.params4] at hA hval
  obtain ⟨v0, v1, d0, d1, p0, p1, rfl, rfl, rfl, h0, h1⟩ := trodAll_two hA
  obtain ⟨rfl, rfl⟩ := trodVars_none hV
  obtain ⟨a, len, cap, rfl⟩ := okWide_slice Try.underlying23 (hval 0 _ v0 rfl rfl)
  obtain ⟨fuel, hf⟩ := h0
  obtain ⟨l, v, hv, hl⟩ := dec_slice Try.underlying23 (by kernel_rfl) (by decide) (dec_word Try.underlying32 (by kernel_rfl) (by kernel_rfl) Try.underlying3 Try.underlying9) hf
  obtain ⟨n, rfl, rfl, rfl, wn⟩ := open_int Try.underlying3 (hval 1 _ v1 rfl rfl) h1
  simp only [Value.cells, List.cons.injEq, and_true] at hv
  subst hv
  refine (lawCount_any l _ n W hl).mono fun e W' ⟨he, hb⟩ => ?_
  subst he
  exact ⟨_, rfl, post_true laidO hW rfl (by kernel_rfl) Try.underlying4 (by rw [Try.params4]; intro t ht; simp only [List.mem_cons, List.not_mem_nil, or_false] at ht; rcases ht with rfl | rfl <;> exact ⟨by kernel_rfl, of_decide_eq_true (by kernel_rfl)⟩) rfl rfl rfl hb⟩

theorem law_count_holds : Rows.FnExactCountKindSaid :=
  OpenClaim.holds_of_wide 4 Try.f4 rfl rfl rfl rfl rfl rfl rfl ⟨rfl, rfl, rfl, rfl, rfl⟩ rfl rfl rfl rfl rfl (by kernel_rfl) Try.func4 (by kernel_rfl)
    (of_decide_eq_true (by kernel_rfl)) (by unfold Func.isWrapper; first | (rw [if_pos (by decide +kernel)]; kernel_rfl) | (rw [if_neg (by decide +kernel)]; exact ⟨rfl, rfl⟩))
    (fun os started H enc _ => law_count_lifted os started H enc)
end Go.Proofs.Ytcmcpipcafjiaaa
