/-
  What the draws answer: texts of words, and texts. Condition: few numbers have been picked.
-/
import Derived.Test.YtiaioiijdlmilaaDoorRd
import Derived.Test.YtiaioiijdlmilaaDoorMarkT
namespace Go.Proofs.YtiaioiijdlmilaaDoor
open Go.RowKit Go.ChangeShapes Go.WideShapes Go.Deep
set_option linter.unusedSimpArgs false
set_option linter.unusedVariables false
/-- a list of texts that has just been laid -/
theorem lit_str (w : World) (ls : List ByteArray) (hs : ∀ s ∈ ls, s.size ≤ maxLen) (hl : ls.length ≤ 1000) : Sl false (strS false) (w.alloc (.cells (ls.map Value.string).toArray 9)) w.heap.size (w.alloc (.cells (ls.map Value.string).toArray 9)).heap.size ls (.slice (some ⟨w.heap.size, 0, none⟩) ls.length ls.length) := by
  refine Sl.of_row (Row.new w _ _) (Nat.le_refl _) (by simp) (Nat.le_refl _) (by unfold maxLen; omega) ?_
  intro i a hi ha
  refine ⟨[.string a], str_mk false _ _ _ (hs a (List.mem_of_getElem? ha)), fun j u hu => ?_⟩
  match j, hu with
  | 0, hu =>
    have hu' := Option.some.inj hu
    subst hu'
    simp [strS, List.getElem?_map, ha]
theorem lit_int (w : World) (ls : List Int) (hs : ∀ s ∈ ls, I64 s) (hl : ls.length ≤ 1000) : Sl false (intS false) (w.alloc (.cells (ls.map (Value.int .i64)).toArray 3)) w.heap.size (w.alloc (.cells (ls.map (Value.int .i64)).toArray 3)).heap.size ls (.slice (some ⟨w.heap.size, 0, none⟩) ls.length ls.length) := by
  refine Sl.of_row (Row.new w _ _) (Nat.le_refl _) (by simp) (Nat.le_refl _) (by unfold maxLen; omega) ?_
  intro i a hi ha
  refine ⟨[.int .i64 a], int_mk false _ _ _ (hs a (List.mem_of_getElem? ha)), fun j u hu => ?_⟩
  match j, hu with
  | 0, hu =>
    have hu' := Option.some.inj hu
    subst hu'
    simp [intS, List.getElem?_map, ha]
def i64s (ls : List Int) : Bool := ls.all fun s => decide (-1000000 ≤ s) && decide (s ≤ 1000000)
theorem i64_of {ls : List Int} (h : i64s ls = true) : ∀ s ∈ ls, I64 s := by
  intro s hs
  have := List.all_eq_true.1 h s hs
  simp at this
  exact ⟨by omega, by omega⟩
theorem But.refl {g : Nat} (w : World) : But g w w := ⟨Below.refl _ _, fun _ _ _ => rfl⟩
theorem But.alloc {g : Nat} {w w' : World} (h : But g w w') (hg : g < w.heap.size) (o : Obj) : But g w (w'.alloc o) := h.trans (But.of_below (Nat.lt_of_lt_of_le hg h.1.size) ((Below.refl _ _).alloc (Nat.le_refl _) _))
theorem dec_ok (n : Nat) (hn : n ≤ 1000) (w : World) : Calls Tryd.prog 61 #[.int .i64 (n : Int)] w (fun e w' => ∃ s, (1 ≤ s.size ∧ s.size ≤ 1001) ∧ e = .returned (.string s) ∧ Below w.heap.size w w') := by
  have q0 : decide ((n : Int) < -9223372036854775807) = false := decide_eq_false (by omega)
  have q1 : decide ((n : Int) < 0) = false := by simp
  go_enter Tryd.func61, Tryd.ntmps61
  go_wp2_with fail
  go_loopw [0, 3] (fun t v wr => ∃ (j : Nat) (s : ByteArray), t = .int .i64 (j : Int) ∧ v = .string s ∧ s.size + j ≤ n ∧ Below w.heap.size w wr) (fun t _ _ => (intOf t).toNat)
  case atStart => exact ⟨n, ⟨#[]⟩, rfl, rfl, (by show 0 + n ≤ n; omega), Below.refl _ _⟩
  case round =>
    obtain ⟨j, s, rfl, rfl, hs, hb⟩ := hrel
    have hcv := u8_str wr
    by_cases hj : 9 < j
    · have hj0 : (9 : Int) < (j : Int) := by omega
      go_wp2_with fail
      go_roundw
      case rel => exact ⟨j / 10, _, by go_num, rfl, by rw [ByteArray.size_append]; show 1 + s.size + j / 10 ≤ n; omega, hb.alloc hb.size _⟩
      case measure => simp [intOf]; omega
    · have hj0 : decide ((9 : Int) < (j : Int)) = false := by simp; omega
      go_wp2_with fail
      go_ret
      exact ⟨_, ⟨by rw [ByteArray.size_append]; show 1 ≤ 1 + s.size; omega, by rw [ByteArray.size_append]; show 1 + s.size ≤ 1001; omega⟩, rfl, hb.alloc hb.size _⟩
theorem many_ok (s : ByteArray) (hs1 : s.size = 1) (n : Nat) (hn : n ≤ 3000) (w : World) : Calls Tryd.prog 69 #[.string s, .int .i64 (n : Int)] w (fun e w' => ∃ t, t.size ≤ n ∧ e = .returned (.string t) ∧ w' = w) := by
  go_enter Tryd.func69, Tryd.ntmps69
  go_wp2_with fail
  go_loopw [0, 1, 5] (fun c t v wr => ∃ (j : Nat) (x y : ByteArray), c = .string x ∧ t = .int .i64 (j : Int) ∧ v = .string y ∧ x.size ≤ 6000 ∧ j ≤ 3000 ∧ Hid (y.size + x.size * j ≤ n) ∧ y.size ≤ n ∧ wr = w) (fun _ t _ _ => (intOf t).toNat)
  case atStart => exact ⟨n, s, ⟨#[]⟩, rfl, rfl, rfl, by omega, by omega, (show _ ≤ _ by rw [hs1]; simp [ByteArray.size]), by simp [ByteArray.size], rfl⟩
  case round =>
    obtain ⟨j, x, y, rfl, rfl, rfl, hx, hj3, HY, hy, rfl⟩ := hrel
    by_cases hj : 0 < j
    · have hj0 : (0 : Int) < (j : Int) := by omega
      have hx3 : x.size ≤ 3000 := by
        have h1 := HY.out
        have h2 : x.size * 1 ≤ x.size * j := Nat.mul_le_mul_left _ hj
        omega
      have hxy : y.size + x.size ≤ n := by
        have h1 := HY.out
        have h2 : x.size * 1 ≤ x.size * j := Nat.mul_le_mul_left _ hj
        omega
      by_cases hodd : j % 2 = 1
      · have q : (((j : Int).tmod 2) == 1) = true := by rw [Int.tmod_eq_emod_of_nonneg (by omega)]; simp; omega
        have q' : (((j : Int) % 2) == 1) = true := by simp; omega
        have HZ : Hid ((y ++ x).size + (x ++ x).size * (j / 2) ≤ n) := by
          have h1 := HY.out
          have h2 : j = 2 * (j / 2) + 1 := by omega
          rw [h2, Nat.mul_add] at h1
          have h3 : x.size * (2 * (j / 2)) = (x.size + x.size) * (j / 2) := by rw [← Nat.mul_assoc, Nat.mul_two]
          show _ ≤ _
          rw [ByteArray.size_append, ByteArray.size_append]
          omega
        clear hodd
        go_wp2_with fail
        go_roundw
        case rel => exact ⟨j / 2, _, _, rfl, by go_num, rfl, by rw [ByteArray.size_append]; omega, by omega, HZ, by rw [ByteArray.size_append]; omega, (by first | rfl | trivial)⟩
        case measure => simp [intOf]; omega
      · have q : (((j : Int).tmod 2) == 1) = false := by rw [Int.tmod_eq_emod_of_nonneg (by omega)]; simp; omega
        have q' : (((j : Int) % 2) == 1) = false := by simp; omega
        have HZ : Hid (y.size + (x ++ x).size * (j / 2) ≤ n) := by
          have h1 := HY.out
          have h2 : j = 2 * (j / 2) := by omega
          rw [h2] at h1
          have h3 : x.size * (2 * (j / 2)) = (x.size + x.size) * (j / 2) := by rw [← Nat.mul_assoc, Nat.mul_two]
          show _ ≤ _
          rw [ByteArray.size_append]
          omega
        clear hodd
        go_wp2_with fail
        go_roundw
        case rel => exact ⟨j / 2, _, _, rfl, by go_num, rfl, by rw [ByteArray.size_append]; omega, by omega, HZ, hy, (by first | rfl | trivial)⟩
        case measure => simp [intOf]; omega
    · have hj0 : decide ((0 : Int) < (j : Int)) = false := by simp; omega
      go_wp2_with fail
      go_ret
      exact ⟨y, hy, rfl, rfl⟩
/-- a text that is not empty, and not great -/
def Some1 (s : ByteArray) : Prop := 1 ≤ s.size ∧ s.size ≤ 1001
def namesD : List ByteArray := [⟨#[97]⟩, ⟨#[98]⟩, ⟨#[120]⟩, ⟨#[103, 111]⟩, ⟨#[97, 98, 99, 100]⟩, ⟨#[122, 122]⟩]
def signsD : List ByteArray := [⟨#[40]⟩, ⟨#[41]⟩, ⟨#[123]⟩, ⟨#[125]⟩, ⟨#[59]⟩, ⟨#[44]⟩, ⟨#[43]⟩, ⟨#[45]⟩, ⟨#[42]⟩, ⟨#[47]⟩, ⟨#[37]⟩, ⟨#[60]⟩, ⟨#[61]⟩, ⟨#[38]⟩, ⟨#[33]⟩, ⟨#[64]⟩]
def some_of (ls : List ByteArray) : Bool := ls.all fun s => decide (1 ≤ s.size) && decide (s.size ≤ 1001)
theorem some_all {ls : List ByteArray} (h : some_of ls = true) : ∀ s ∈ ls, Some1 s := by
  intro s hs
  have := List.all_eq_true.1 h s hs
  simpa [Some1] using this
theorem some_ml {ls : List ByteArray} (h : ∀ s ∈ ls, Some1 s) : ∀ s ∈ ls, s.size ≤ maxLen := fun s hs => Nat.le_trans (h s hs).2 (by decide)
set_option maxRecDepth 100000 in
set_option maxHeartbeats 4000000 in
theorem some_ok (l : List UInt8) (g p : Nat) (w : World) (h : RdAt w g l p) (hp : p ≤ 900000) :
    Calls Tryd.prog 57 #[.pointer (some ⟨g, 0, none⟩)] w (DrP g l p 2 (fun v _ => ∃ s, Some1 s ∧ v = .string s) w) := by
  go_enter Tryd.func57, Tryd.ntmps57
  go_wp2_with fail
  refine (pick_ok 5 (by omega) (by omega) l g p _ h (by omega)).mono ?_
  rintro e w1 ⟨v, p1, rfl, h1, hp1, hb1, k, hk, rfl⟩
  have hg1 := h1.lt
  by_cases k0 : k = 0
  · subst k0
    have L := lit_str w1 namesD (some_ml (some_all (by decide +kernel))) (by decide)
    go_wp2_with fail
    refine (of_ok namesD (by decide) (by decide) Some1 (some_all (by decide +kernel)) _ _ _ l g p1 _ (h1.below ((Below.refl _ _).alloc (Nat.le_refl _) _) hg1) (by omega) L hg1 (Nat.le_refl _)).mono ?_
    rintro e w2 ⟨v, p2, rfl, h2, hp2, hb2, s, hs, rfl⟩
    go_wp2_with fail
    go_ret
    exact ⟨_, p2, rfl, h2, by omega, (hb1.alloc h.lt _).trans hb2, s, hs, rfl⟩
  have q0 : ((k : Int) == 0) = false := by simpa using k0
  by_cases k1 : k = 1
  · subst k1
    have L := lit_int w1 [0, 1, 7, 10, 99, 100, 255] (i64_of (by decide)) (by decide)
    go_wp2_with fail
    refine (num_ok [0, 1, 7, 10, 99, 100, 255] (by decide) (by decide) (fun x => ∃ n : Nat, x = (n : Int) ∧ n ≤ 1000) (by
      intro s hs
      refine ⟨s.toNat, ?_, ?_⟩ <;> (simp at hs; omega)) _ _ _ l g p1 _ (h1.below ((Below.refl _ _).alloc (Nat.le_refl _) _) hg1) (by omega) L hg1 (Nat.le_refl _)).mono ?_
    rintro e w2 ⟨v, p2, rfl, h2, hp2, hb2, x, ⟨n, rfl, hn⟩, rfl⟩
    go_wp2_with fail
    refine (dec_ok n hn _).mono ?_
    rintro e w3 ⟨s, hs, rfl, b3⟩
    go_wp2_with fail
    go_ret
    exact ⟨_, p2, rfl, h2.below b3 h2.lt, by omega, ((hb1.alloc h.lt _).trans hb2).trans (But.of_below h2.lt b3), s, hs, rfl⟩
  have q1 : ((k : Int) == 1) = false := by simp; omega
  by_cases k2 : k = 2
  · subst k2
    go_wp2_with fail
    refine (spec_KeyWords _).mono ?_
    rintro e w2 ⟨gk, rfl, L, b2⟩
    go_wp2_with fail
    refine (of_ok keysL (by decide) (by decide) Some1 (some_all (by decide +kernel)) _ _ _ l g p1 _ (h1.below b2 hg1) (by omega) L hg1 (Nat.le_refl _)).mono ?_
    rintro e w3 ⟨v, p2, rfl, h2, hp2, hb2, s, hs, rfl⟩
    go_wp2_with fail
    go_ret
    exact ⟨_, p2, rfl, h2, by omega, (hb1.trans (But.of_below hg1 b2)).trans hb2, s, hs, rfl⟩
  have q2 : ((k : Int) == 2) = false := by simp; omega
  have L := lit_str w1 signsD (some_ml (some_all (by decide +kernel))) (by decide)
  go_wp2_with fail
  refine (of_ok signsD (by decide) (by decide) Some1 (some_all (by decide +kernel)) _ _ _ l g p1 _ (h1.below ((Below.refl _ _).alloc (Nat.le_refl _) _) hg1) (by omega) L hg1 (Nat.le_refl _)).mono ?_
  rintro e w2 ⟨v, p2, rfl, h2, hp2, hb2, s, hs, rfl⟩
  go_wp2_with fail
  go_ret
  exact ⟨_, p2, rfl, h2, by omega, (hb1.alloc h.lt _).trans hb2, s, hs, rfl⟩
def badsD : List ByteArray := [⟨#[97, 98, 99, 100, 101]⟩, ⟨#[50, 53, 54]⟩, ⟨#[48, 49]⟩, ⟨#[48, 48]⟩, ⟨#[63]⟩, ⟨#[65]⟩, ⟨#[9]⟩, ⟨#[36]⟩, ⟨#[120, 95, 121]⟩, ⟨#[]⟩]
/-- a text that is not great -/
def Small1 (s : ByteArray) : Prop := s.size ≤ 1001
theorem small_all {ls : List ByteArray} (h : (ls.all fun s => decide (s.size ≤ 1001)) = true) : ∀ s ∈ ls, Small1 s := by
  intro s hs
  have := List.all_eq_true.1 h s hs
  simpa [Small1] using this
theorem small_ml {ls : List ByteArray} (h : ∀ s ∈ ls, Small1 s) : ∀ s ∈ ls, s.size ≤ maxLen := fun s hs => Nat.le_trans (h s hs) (by decide)
set_option maxRecDepth 100000 in
set_option maxHeartbeats 4000000 in
theorem bad_ok (l : List UInt8) (g p : Nat) (w : World) (h : RdAt w g l p) (hp : p ≤ 800000) :
    Calls Tryd.prog 38 #[.pointer (some ⟨g, 0, none⟩)] w (DrP g l p 3 (fun v _ => ∃ s, Small1 s ∧ v = .string s) w) := by
  go_enter Tryd.func38, Tryd.ntmps38
  go_wp2_with fail
  refine (pick_ok 10 (by omega) (by omega) l g p _ h (by omega)).mono ?_
  rintro e w1 ⟨v, p1, rfl, h1, hp1, hb1, k, hk, rfl⟩
  have hg1 := h1.lt
  by_cases k0 : k = 0
  · subst k0
    have L := lit_str w1 badsD (small_ml (small_all (by decide +kernel))) (by decide)
    go_wp2_with fail
    refine (of_ok badsD (by decide) (by decide) Small1 (small_all (by decide +kernel)) _ _ _ l g p1 _ (h1.below ((Below.refl _ _).alloc (Nat.le_refl _) _) hg1) (by omega) L hg1 (Nat.le_refl _)).mono ?_
    rintro e w2 ⟨v, p2, rfl, h2, hp2, hb2, s, hs, rfl⟩
    go_wp2_with fail
    go_ret
    exact ⟨_, p2, rfl, h2, by omega, (hb1.alloc h.lt _).trans hb2, s, hs, rfl⟩
  have q0 : ((k : Int) == 0) = false := by simpa using k0
  go_wp2_with fail
  refine (some_ok l g p1 _ h1 (by omega)).mono ?_
  rintro e w2 ⟨v, p2, rfl, h2, hp2, hb2, s, hs, rfl⟩
  go_wp2_with fail
  go_ret
  exact ⟨_, p2, rfl, h2, by omega, hb1.trans hb2, s, hs.2, rfl⟩
def headsD : List ByteArray := [⟨#[]⟩, ⟨#[]⟩, ⟨#[32]⟩, ⟨#[10, 32]⟩]
def gapsD : List ByteArray := [⟨#[32]⟩, ⟨#[32]⟩, ⟨#[32]⟩, ⟨#[32, 32]⟩, ⟨#[10]⟩, ⟨#[]⟩]
theorem text_step {s a b : ByteArray} {j n : Nat} (ha : a.size ≤ 1001) (hb : b.size ≤ 1001) (hs : s.size + j * 2002 ≤ n) (hj : 0 < j) : ((s ++ a) ++ b).size + (j - 1) * 2002 ≤ n := by
  rw [ByteArray.size_append, ByteArray.size_append]
  omega
set_option maxRecDepth 100000 in
set_option maxHeartbeats 4000000 in
theorem text_ok (l : List UInt8) (g p : Nat) (w : World) (h : RdAt w g l p) (hp : p ≤ 1000) :
    Calls Tryd.prog 62 #[.pointer (some ⟨g, 0, none⟩)] w (DrP g l p 200 (fun v _ => ∃ s, s.size ≤ 50000 ∧ v = .string s) w) := by
  have hgw := h.lt
  have L0 := lit_str w headsD (small_ml (small_all (by decide +kernel))) (by decide)
  go_enter Tryd.func62, Tryd.ntmps62
  go_wp2_with fail
  refine (of_ok headsD (by decide) (by decide) Small1 (small_all (by decide +kernel)) _ _ _ l g p _ (h.below ((Below.refl _ _).alloc (Nat.le_refl _) _) hgw) (by omega) L0 hgw (Nat.le_refl _)).mono ?_
  rintro e w1 ⟨v, p1, rfl, h1, hp1, hb1, s0, hs0, rfl⟩
  have hc1 : But g w w1 := ((But.refl w).alloc hgw _).trans hb1
  clear hb1 L0
  go_wp2_with fail
  refine (pick_ok 4 (by omega) (by omega) l g p1 _ h1 (by omega)).mono ?_
  rintro e w2 ⟨v, p2, rfl, h2, hp2, hb2, k, hk, rfl⟩
  have hc2 := hc1.trans hb2
  have hg2 := h2.lt
  obtain ⟨bd, hbd⟩ : ∃ bd, ((k : Int) == 0) = bd := ⟨_, rfl⟩
  have L2 := lit_int w2 [3, 6, 10, 1, 0, 20] (i64_of (by decide)) (by decide)
  go_wp2_with fail
  refine (num_ok [3, 6, 10, 1, 0, 20] (by decide) (by decide) (fun x => ∃ n : Nat, x = (n : Int) ∧ n ≤ 20) (by
    intro s hs
    refine ⟨s.toNat, ?_, ?_⟩ <;> (simp at hs; omega)) _ _ _ l g p2 _ (h2.below ((Below.refl _ _).alloc (Nat.le_refl _) _) hg2) (by omega) L2 hg2 (Nat.le_refl _)).mono ?_
  rintro e w3 ⟨v, p3, rfl, h3, hp3, hb3, x, ⟨n, rfl, hn⟩, rfl⟩
  have hc3 : But g w w3 := (hc2.alloc hgw _).trans hb3
  have hg3 := h3.lt
  clear hb3 L2 hb2 hc1
  go_wp2_with fail
  go_loopw [3, 5] (fun v t wr => ∃ (j p' : Nat) (s : ByteArray), v = .string s ∧ t = .int .i64 (j : Int) ∧ j ≤ 20 ∧ s.size + j * 2002 ≤ 41041 ∧ p' + j * 4 ≤ p + 83 ∧ RdAt wr g l p' ∧ But g w wr) (fun _ t _ => (intOf t).toNat)
  case atStart => exact ⟨n, p3, s0, rfl, rfl, hn, by unfold Small1 at hs0; omega, by omega, h3, hc3⟩
  case round =>
    obtain ⟨j, p', s, rfl, rfl, hj, hsz, hp', hR, hB⟩ := hrel
    have hgr := hR.lt
    by_cases hj0 : 0 < j
    · have hj1 : (0 : Int) < (j : Int) := by omega
      cases bd
      case true =>
        go_wp2_with fail
        refine (bad_ok l g p' _ hR (by omega)).mono ?_
        rintro e w4 ⟨v, p4, rfl, h4, hp4, hb4, a, ha, rfl⟩
        have hg4 := h4.lt
        have ha' : a.size ≤ 1001 := ha
        have L4 := lit_str w4 gapsD (small_ml (small_all (by decide +kernel))) (by decide)
        go_wp2_with fail
        refine (of_ok gapsD (by decide) (by decide) Small1 (small_all (by decide +kernel)) _ _ _ l g p4 _ (h4.below ((Below.refl _ _).alloc (Nat.le_refl _) _) hg4) (by omega) L4 hg4 (Nat.le_refl _)).mono ?_
        rintro e w5 ⟨v, p5, rfl, h5, hp5, hb5, b, hb, rfl⟩
        have hb' : b.size ≤ 1001 := hb
        have hf := text_step ha hb hsz hj0
        go_wp2_with fail
        go_roundw
        case rel => exact ⟨j - 1, p5, _, rfl, by go_num, by omega, hf, by omega, h5, ((hB.trans hb4).alloc hgw _).trans hb5⟩
        case measure => simp [intOf]; omega
      case false =>
        go_wp2_with fail
        refine (some_ok l g p' _ hR (by omega)).mono ?_
        rintro e w4 ⟨v, p4, rfl, h4, hp4, hb4, a, ha, rfl⟩
        have hg4 := h4.lt
        have ha' : a.size ≤ 1001 := ha.2
        have L4 := lit_str w4 gapsD (small_ml (small_all (by decide +kernel))) (by decide)
        go_wp2_with fail
        refine (of_ok gapsD (by decide) (by decide) Small1 (small_all (by decide +kernel)) _ _ _ l g p4 _ (h4.below ((Below.refl _ _).alloc (Nat.le_refl _) _) hg4) (by omega) L4 hg4 (Nat.le_refl _)).mono ?_
        rintro e w5 ⟨v, p5, rfl, h5, hp5, hb5, b, hb, rfl⟩
        have hb' : b.size ≤ 1001 := hb
        have hf := text_step ha.2 hb hsz hj0
        go_wp2_with fail
        go_roundw
        case rel => exact ⟨j - 1, p5, _, rfl, by go_num, by omega, hf, by omega, h5, ((hB.trans hb4).alloc hgw _).trans hb5⟩
        case measure => simp [intOf]; omega
    · have hj1 : decide ((0 : Int) < (j : Int)) = false := by simp; omega
      clear hbd
      go_wp2_with fail
      refine (pick_ok 60 (by omega) (by omega) l g p' _ hR (by omega)).mono ?_
      rintro e w4 ⟨v, p4, rfl, h4, hp4, hb4, k4, hk4, rfl⟩
      have hc4 := hB.trans hb4
      have hg4 := h4.lt
      by_cases k0 : k4 = 0
      · subst k0
        have L4 := lit_int w4 [600, 601] (i64_of (by decide)) (by decide)
        go_wp2_with fail
        refine (num_ok [600, 601] (by decide) (by decide) (fun x => ∃ n : Nat, x = (n : Int) ∧ n ≤ 3000) (by
          intro s hs
          refine ⟨s.toNat, ?_, ?_⟩ <;> (simp at hs; omega)) _ _ _ l g p4 _ (h4.below ((Below.refl _ _).alloc (Nat.le_refl _) _) hg4) (by omega) L4 hg4 (Nat.le_refl _)).mono ?_
        rintro e w5 ⟨v, p5, rfl, h5, hp5, hb5, x, ⟨n5, rfl, hn5⟩, rfl⟩
        have hc5 : But g w w5 := (hc4.alloc hgw _).trans hb5
        have hg5 := h5.lt
        go_wp2_with fail
        refine (many_ok ⟨#[59]⟩ rfl n5 hn5 _).mono ?_
        rintro e w6 ⟨t, ht, rfl, rfl⟩
        have L6 := lit_int w6 [0, 2399, 2400, 2401] (i64_of (by decide)) (by decide)
        go_wp2_with fail
        refine (num_ok [0, 2399, 2400, 2401] (by decide) (by decide) (fun x => ∃ n : Nat, x = (n : Int) ∧ n ≤ 3000) (by
          intro s hs
          refine ⟨s.toNat, ?_, ?_⟩ <;> (simp at hs; omega)) _ _ _ l g p5 _ (h5.below ((Below.refl _ _).alloc (Nat.le_refl _) _) hg5) (by omega) L6 hg5 (Nat.le_refl _)).mono ?_
        rintro e w7 ⟨v, p7, rfl, h7, hp7, hb7, x, ⟨n7, rfl, hn7⟩, rfl⟩
        go_wp2_with fail
        refine (many_ok ⟨#[32]⟩ rfl n7 hn7 _).mono ?_
        rintro e w8 ⟨u, hu, rfl, rfl⟩
        go_wp2_with fail
        go_ret
        exact ⟨_, p7, rfl, h7, by omega, (hc5.alloc hgw _).trans hb7, t ++ u, by rw [ByteArray.size_append]; omega, rfl⟩
      · have q0 : ((k4 : Int) == 0) = false := by simpa using k0
        go_wp2_with fail
        go_ret
        exact ⟨_, p4, rfl, h4, by omega, hc4, s, by omega, rfl⟩
end Go.Proofs.YtiaioiijdlmilaaDoor
