/-
  The lists of numbers to try: by the reference (l5Inputs) and by the program (triesOf). Conditions: at most three numbers; the program's table lies.
-/
import Derived.Test.YtlhnojpkomcpmaaDoorGrid
import Derived.Test.YtlhnojpkomcpmaaDoorOwn
import Derived.Test.YtlhnojpkomcpmaaDoorShelf
import Derived.Lib.SlFresh
import Derived.Deep.MidRow
namespace Go.Proofs.YtlhnojpkomcpmaaDoor
open Go.RowKit Go.ChangeShapes Go.WideShapes Go.Deep
set_option linter.unusedVariables false
set_option linter.unusedSimpArgs false
def triesL (q : Nat) : List Int := if q = 0 then [0, 0, 0] else if q = 1 then [1, 2, 3] else [255, 16, 7]
def triF (n q : Nat) : List Int := (triesL q).take n
theorem triesL_len (q : Nat) : (triesL q).length = 3 := by unfold triesL; split <;> (try split) <;> rfl
theorem triF_len {n : Nat} (hn : n ≤ 3) (q : Nat) : (triF n q).length = n := by unfold triF; rw [List.length_take, triesL_len]; omega
theorem triF_I64 (n q : Nat) : ∀ x ∈ triF n q, I64 x := by
  intro x hx
  have h := List.mem_of_mem_take hx
  unfold triesL at h
  split at h
  · simp at h; subst h; exact ⟨by omega, by omega⟩
  · split at h
    · simp at h; rcases h with rfl | rfl | rfl <;> exact ⟨by omega, by omega⟩
    · simp at h; rcases h with rfl | rfl | rfl <;> exact ⟨by omega, by omega⟩
theorem row_ne {w : World} {b : Nat} {t t' : TypeId} {c c' : Array Value} (h : Row w b t c) (h' : Row w b t' c') (hne : t ≠ t') : False := by
  have e2 := h.symm.trans h'
  injection e2 with e2
  injection e2 with e2 e3
  exact hne e3
/-- k lists in rows of their own -/
def InnerOK (w : World) (base k n : Nat) (blk cp : Nat → Nat) : Prop :=
  (∀ i j, i < k → j < k → i ≠ j → blk i ≠ blk j) ∧ ∀ q, q < k → base ≤ blk q ∧ n ≤ cp q ∧ cp q ≤ maxLen ∧ ∃ cur, Row w (blk q) 3 cur ∧ ∀ (j : Nat) (a : Int), (triF n q)[j]? = some a → cur[j]? = some (.int .i64 a)
theorem InnerOK.zero (w : World) (base n : Nat) (blk cp : Nat → Nat) : InnerOK w base 0 n blk cp := ⟨fun i j hi => absurd hi (Nat.not_lt_zero _), fun q hq => absurd hq (Nat.not_lt_zero _)⟩
theorem InnerOK.below {w w' : World} {base k n : Nat} {blk cp : Nat → Nat} (h : InnerOK w base k n blk cp) (hb : Below w.heap.size w w') : InnerOK w' base k n blk cp :=
  ⟨h.1, fun q hq => by
    obtain ⟨h1, h2, h3, cur, R, hc⟩ := h.2 q hq
    exact ⟨h1, h2, h3, cur, R.below hb R.lt, hc⟩⟩
/-- the cells of the outer row -/
def outC (k n : Nat) (blk cp : Nat → Nat) : List Value := (List.range k).map fun q => Value.slice (some ⟨blk q, 0, none⟩) n (cp q)
theorem InnerOK.snoc {w w1 : World} {base k n : Nat} {blk cp : Nat → Nat} (h : InnerOK w base k n blk cp) (hbase : base ≤ w.heap.size) (hb : Below w.heap.size w w1) {v : Value} (hown : w1.ownsRow w.heap.size 3 1 v n ((triF n k).map (Value.int .i64))) (hne : v ≠ .slice none 0 0) :
    ∃ (blk' cp' : Nat → Nat), v = .slice (some ⟨blk' k, 0, none⟩) n (cp' k) ∧ InnerOK w1 base (k + 1) n blk' cp' ∧ outC (k + 1) n blk' cp' = outC k n blk cp ++ [v] := by
  rcases hown.2 with ⟨rfl, _⟩ | ⟨g, cap, cur, rfl, h2, h3, h4, h5, h6, h7⟩
  · exact absurd rfl hne
  refine ⟨fun q => if q = k then g else blk q, fun q => if q = k then cap else cp q, by simp, ⟨fun i j hi hj hij => ?_, fun q hq => ?_⟩, ?_⟩
  · have old : ∀ i, i < k → blk i < w.heap.size := fun i hi => by
      obtain ⟨_, _, _, cur, R, _⟩ := h.2 i hi
      exact R.lt
    show (if i = k then g else blk i) ≠ (if j = k then g else blk j)
    by_cases hik : i = k
    · subst hik
      rw [if_pos rfl, if_neg (Ne.symm hij)]
      have := old j (by omega)
      omega
    · rw [if_neg hik]
      by_cases hjk : j = k
      · rw [if_pos hjk]
        have := old i (by omega)
        omega
      · rw [if_neg hjk]
        exact h.1 i j (by omega) (by omega) hij
  · show base ≤ (if q = k then g else blk q) ∧ n ≤ (if q = k then cap else cp q) ∧ (if q = k then cap else cp q) ≤ maxLen ∧ ∃ cur, Row w1 (if q = k then g else blk q) 3 cur ∧ _
    by_cases hqk : q = k
    · subst hqk
      rw [if_pos rfl, if_pos rfl]
      refine ⟨by omega, h4, h5, cur, h3, fun j a ha => ?_⟩
      have hjn : j < n := by
        have h9 := (List.getElem?_eq_some_iff.1 ha).1
        have h10 := hown.1
        simp at h10
        omega
      have e1 : (cur.toList.take (n * 1))[j]? = some (.int .i64 a) := by rw [h7, List.getElem?_map, ha]; rfl
      rw [List.getElem?_take_of_lt (by omega)] at e1
      simpa using e1
    · rw [if_neg hqk, if_neg hqk]
      obtain ⟨h1, h2', h3', cur', R, hc⟩ := h.2 q (by omega)
      exact ⟨h1, h2', h3', cur', R.below hb R.lt, hc⟩
  · unfold outC
    rw [List.range_succ, List.map_append]
    congr 1
    · apply List.map_congr_left
      intro q hq
      have : q ≠ k := by have := List.mem_range.1 hq; omega
      show Value.slice (some ⟨(if q = k then g else blk q), 0, none⟩) n (if q = k then cap else cp q) = _
      rw [if_neg this, if_neg this]
    · simp
theorem grid_of {w : World} {base base' lo n : Nat} {blk cp : Nat → Nat} {v : Value} (hown : w.ownsRow base 46 1 v 3 (outC 3 n blk cp)) (hI : InnerOK w base' 3 n blk cp) (hn : n ≤ 3) (h1 : lo ≤ base) (h2 : lo ≤ base') : Grid true w lo w.heap.size 3 n (triF n) v := by
  rcases hown.2 with ⟨_, e⟩ | ⟨g, cap, cur, rfl, h3, h4, h5, h6, h7, h8⟩
  · exact absurd e (by decide)
  refine ⟨_, cap, rfl, h5, h6, fun _ => ⟨g, cur, blk, cp, rfl, by omega, Row.lt h4, h4, hI.1, fun i hi => ?_⟩⟩
  obtain ⟨k1, k2, k3, curi, R, hc⟩ := hI.2 i hi
  have hS : ∀ m, Sl m (intS m) w (blk i) (blk i + 1) (triF n i) (.slice (some ⟨blk i, 0, none⟩) n (cp i)) := fun m => by
    have h9 := Sl.of_row (m := m) (S := intS m) (l := triF n i) (lo := blk i) (B := blk i + 1) (cap := cp i) R (Nat.le_refl _) (Nat.lt_succ_self _) (by rw [triF_len hn]; exact k2) k3 (by
      intro q a hq ha
      refine ⟨[.int .i64 a], int_mk m _ _ _ (triF_I64 n i a (List.mem_of_getElem? ha)), fun j u hu => ?_⟩
      match j, hu with
      | 0, hu =>
        have hu' := Option.some.inj hu
        subst hu'
        simpa [intS] using hc q a ha)
    rw [triF_len hn] at h9
    exact h9
  refine ⟨fun e => row_ne R (e ▸ h4) (by decide), by omega, Row.lt R, ?_, fun _ => hS true, hS false⟩
  have e1 : (cur.toList.take (3 * 1))[i]? = some (.slice (some ⟨blk i, 0, none⟩) n (cp i)) := by
    rw [h8]
    unfold outC
    rw [List.getElem?_map, List.getElem?_range hi]
    rfl
  rw [List.getElem?_take_of_lt (by omega)] at e1
  simpa using e1
/-- what a function answers: three lists of n numbers, or none, in new rows -/
def GP (w : World) (N n : Nat) (e : Ending) (w' : World) : Prop := ∃ v, e = .returned v ∧ Grid true w' w.heap.size w'.heap.size N n (triF n) v ∧ Below w.heap.size w w'
theorem Tryd.info_ints : (Tryd.prog.info? 46).map (fun i => (i.zero, i.size, i.bytes)) = some (some (.slice none 0 0), 1, 24) := by kernel_rfl
theorem tri_news {w : World} {b k n : Nat} (R : Row w b 3 ((triesL k).map (Value.int .i64)).toArray) : ∀ (j : Nat) (u : Value), ((triF n k).map (Value.int .i64))[j]? = some u → w.cell? ((⟨b, 0, none⟩ : Addr).add j) = some u := by
  intro j u hu
  rw [show (⟨b, 0, none⟩ : Addr).add j = ⟨b, j, none⟩ by by_cases h : j = 0 <;> simp [Addr.add, h], R.cell j]
  unfold triF at hu
  rw [List.map_take] at hu
  rw [List.getElem?_take] at hu
  split at hu
  · rw [List.getElem?_toArray]
    exact hu
  · cases hu
theorem own_below2 {w w' : World} {base : Nat} {e : TypeId} {size : Nat} {v : Value} {n : Nat} {xs : List Value} (h : w.ownsRow base e size v n xs) (hb : Below w.heap.size w w') : w'.ownsRow base e size v n xs := by
  refine ⟨h.1, ?_⟩
  rcases h.2 with h1 | ⟨g, cap, cur, rfl, h2, h3, h4⟩
  · exact Or.inl h1
  · exact Or.inr ⟨g, cap, cur, rfl, h2, (hb.block g (Row.lt h3)).trans h3, h4⟩
theorem InnerOK.grown {w w' : World} {base k n : Nat} {blk cp : Nat → Nat} (h : InnerOK w base k n blk cp) {b m : Nat} {v : Value} {xs : List Value} (hown : w.ownsRow b 46 1 v m xs) (hg : w.grownBy w' v.ownBlock) : InnerOK w' base k n blk cp :=
  ⟨h.1, fun q hq => by
    obtain ⟨h1, h2, h3, cur, R, hc⟩ := h.2 q hq
    refine ⟨h1, h2, h3, cur, R.grown hg (fun e => ?_), hc⟩
    rcases hown.2 with ⟨rfl, _⟩ | ⟨g, cap, cur', rfl, k2, k3, _⟩
    · cases e
    · injection e with e
      exact row_ne R (show Row w (blk q) 46 cur' by rw [show blk q = g from e]; exact k3) (by decide)⟩
theorem tri_rows (w : World) : ∀ k, k < 3 → ((((w.alloc (.cells #[.int .i64 0, .int .i64 0, .int .i64 0] 3)).alloc (.cells #[.int .i64 1, .int .i64 2, .int .i64 3] 3)).alloc (.cells #[.int .i64 255, .int .i64 16, .int .i64 7] 3)).alloc (.cells #[.slice (some ⟨w.heap.size, 0, none⟩) 3 3, .slice (some ⟨w.heap.size + 1, 0, none⟩) 3 3, .slice (some ⟨w.heap.size + 1 + 1, 0, none⟩) 3 3] 46)).cell? ⟨w.heap.size + 1 + 1 + 1, k, none⟩ = some (.slice (some ⟨w.heap.size + k, 0, none⟩) 3 3) ∧ Row ((((w.alloc (.cells #[.int .i64 0, .int .i64 0, .int .i64 0] 3)).alloc (.cells #[.int .i64 1, .int .i64 2, .int .i64 3] 3)).alloc (.cells #[.int .i64 255, .int .i64 16, .int .i64 7] 3)).alloc (.cells #[.slice (some ⟨w.heap.size, 0, none⟩) 3 3, .slice (some ⟨w.heap.size + 1, 0, none⟩) 3 3, .slice (some ⟨w.heap.size + 1 + 1, 0, none⟩) 3 3] 46)) (w.heap.size + k) 3 ((triesL k).map (Value.int .i64)).toArray := by
  intro k hk
  have RO : Row ((((w.alloc (.cells #[.int .i64 0, .int .i64 0, .int .i64 0] 3)).alloc (.cells #[.int .i64 1, .int .i64 2, .int .i64 3] 3)).alloc (.cells #[.int .i64 255, .int .i64 16, .int .i64 7] 3)).alloc (.cells #[.slice (some ⟨w.heap.size, 0, none⟩) 3 3, .slice (some ⟨w.heap.size + 1, 0, none⟩) 3 3, .slice (some ⟨w.heap.size + 1 + 1, 0, none⟩) 3 3] 46)) (w.heap.size + 1 + 1 + 1) 46 #[.slice (some ⟨w.heap.size, 0, none⟩) 3 3, .slice (some ⟨w.heap.size + 1, 0, none⟩) 3 3, .slice (some ⟨w.heap.size + 1 + 1, 0, none⟩) 3 3] := by simpa using Row.new (((w.alloc (.cells #[.int .i64 0, .int .i64 0, .int .i64 0] 3)).alloc (.cells #[.int .i64 1, .int .i64 2, .int .i64 3] 3)).alloc (.cells #[.int .i64 255, .int .i64 16, .int .i64 7] 3)) 46 _
  obtain rfl | rfl | rfl : k = 0 ∨ k = 1 ∨ k = 2 := by omega
  · exact ⟨RO.cell 0, (((Row.new w 3 _).alloc _).alloc _).alloc _⟩
  · refine ⟨RO.cell 1, ?_⟩
    have := ((Row.new (w.alloc (.cells #[.int .i64 0, .int .i64 0, .int .i64 0] 3)) 3 #[.int .i64 1, .int .i64 2, .int .i64 3]).alloc (.cells #[.int .i64 255, .int .i64 16, .int .i64 7] 3)).alloc (.cells #[.slice (some ⟨w.heap.size, 0, none⟩) 3 3, .slice (some ⟨w.heap.size + 1, 0, none⟩) 3 3, .slice (some ⟨w.heap.size + 1 + 1, 0, none⟩) 3 3] 46)
    simpa [triesL] using this
  · refine ⟨RO.cell 2, ?_⟩
    have := (Row.new ((w.alloc (.cells #[.int .i64 0, .int .i64 0, .int .i64 0] 3)).alloc (.cells #[.int .i64 1, .int .i64 2, .int .i64 3] 3)) 3 #[.int .i64 255, .int .i64 16, .int .i64 7]).alloc (.cells #[.slice (some ⟨w.heap.size, 0, none⟩) 3 3, .slice (some ⟨w.heap.size + 1, 0, none⟩) 3 3, .slice (some ⟨w.heap.size + 1 + 1, 0, none⟩) 3 3] 46)
    simpa [triesL] using this
set_option maxRecDepth 100000 in
set_option maxHeartbeats 2000000 in
theorem spec_l5Inputs (n : Nat) (hn : n ≤ 3) (w : World) : Calls Tryd.prog 15 #[.int .i64 (n : Int)] w (GP w 3 n) := by
  obtain ⟨i0, hi, hz0, hz1, hz2⟩ := info_parts Tryd.info_int
  obtain ⟨i1, hj, hy0, hy1, hy2⟩ := info_parts Tryd.info_ints
  go_enter Tryd.func15, Tryd.ntmps15
  go_upto_region 2 with fail
  have HR := tri_rows w
  have hb0 : Below w.heap.size w ((((w.alloc (.cells #[.int .i64 0, .int .i64 0, .int .i64 0] 3)).alloc (.cells #[.int .i64 1, .int .i64 2, .int .i64 3] 3)).alloc (.cells #[.int .i64 255, .int .i64 16, .int .i64 7] 3)).alloc (.cells #[.slice (some ⟨w.heap.size, 0, none⟩) 3 3, .slice (some ⟨w.heap.size + 1, 0, none⟩) 3 3, .slice (some ⟨w.heap.size + 1 + 1, 0, none⟩) 3 3] 46)) := ((((Below.refl _ w).alloc (Nat.le_refl _) _).alloc (by simp) _).alloc (by simp; omega) _).alloc (by simp; omega) _
  have hsz : ((((w.alloc (.cells #[.int .i64 0, .int .i64 0, .int .i64 0] 3)).alloc (.cells #[.int .i64 1, .int .i64 2, .int .i64 3] 3)).alloc (.cells #[.int .i64 255, .int .i64 16, .int .i64 7] 3)).alloc (.cells #[.slice (some ⟨w.heap.size, 0, none⟩) 3 3, .slice (some ⟨w.heap.size + 1, 0, none⟩) 3 3, .slice (some ⟨w.heap.size + 1 + 1, 0, none⟩) 3 3] 46)).heap.size = w.heap.size + 1 + 1 + 1 + 1 := by simp
  generalize ((((w.alloc (.cells #[.int .i64 0, .int .i64 0, .int .i64 0] 3)).alloc (.cells #[.int .i64 1, .int .i64 2, .int .i64 3] 3)).alloc (.cells #[.int .i64 255, .int .i64 16, .int .i64 7] 3)).alloc (.cells #[.slice (some ⟨w.heap.size, 0, none⟩) 3 3, .slice (some ⟨w.heap.size + 1, 0, none⟩) 3 3, .slice (some ⟨w.heap.size + 1 + 1, 0, none⟩) 3 3] 46)) = w4 at HR hb0 hsz ⊢
  have R0 : Row (w4.alloc (.cells #[] 46)) w4.heap.size 46 #[] := Row.new _ _ _
  have nb4 : Below w4.heap.size w4 (w4.alloc (.cells #[] 46)) := (Below.refl _ _).alloc (Nat.le_refl _) _
  have hO3 : w.heap.size + 1 + 1 + 1 < w4.heap.size := by omega
  clear hsz
  go_wp2_with fail
  go_loopw [4, 5] (fun v i wr => ∃ (k : Nat) (blk cp : Nat → Nat), k ≤ 3 ∧ i = .int .i64 (k : Int) ∧ wr.ownsRow w4.heap.size 46 1 v k (outC k n blk cp) ∧ InnerOK wr w4.heap.size k n blk cp ∧ Below w4.heap.size w4 wr) (fun _ i _ => 3 - (intOf i).toNat)
  case atStart => exact ⟨0, fun _ => 0, fun _ => 0, by omega, rfl, ⟨rfl, Or.inr ⟨_, 0, #[], rfl, Nat.le_refl _, R0, by simp, by simp [maxLen], rfl, rfl⟩⟩, InnerOK.zero _ _ _ _ _, nb4⟩
  case round =>
    obtain ⟨k, blk, cp, hk, rfl, hown, hI, hb⟩ := hrel
    by_cases hk3 : k < 3
    case neg =>
      obtain rfl : k = 3 := by omega
      go_wp2_with fail
      go_ret
      exact ⟨_, rfl, grid_of hown hI hn hb0.size hb0.size, hb0.trans (hb.mono hb0.size)⟩
    have hk4 : (k : Int) < 3 := by omega
    have y0 : wr.cell? ⟨w.heap.size + 1 + 1 + 1, k, none⟩ = some (.slice (some ⟨w.heap.size + k, 0, none⟩) 3 3) := (hb.cell (p := ⟨w.heap.size + 1 + 1 + 1, k, none⟩) hO3).trans (HR k hk3).1
    have Rk : Row wr (w.heap.size + k) 3 ((triesL k).map (Value.int .i64)).toArray := (HR k hk3).2.below hb (by omega)
    have hn3 : (n : Int) ≤ 3 := by omega
    go_upto_region 6 with fail
    have hE : (wr.alloc (.cells #[] 3)).ownsRow wr.heap.size 3 1 (.slice (some ⟨wr.heap.size, 0, none⟩) 0 0) 0 [] := ⟨rfl, Or.inr ⟨_, 0, #[], rfl, Nat.le_refl _, Row.new _ _ _, by simp, by simp [maxLen], rfl, rfl⟩⟩
    have nbE : Below wr.heap.size wr (wr.alloc (.cells #[] 3)) := (Below.refl _ _).alloc (Nat.le_refl _) _
    have hlT := triF_len hn k
    have hT8 : ((triF n k).map (Value.int .i64)).length = n * 1 := by rw [List.length_map, hlT, Nat.mul_one]
    have RkE := Rk.alloc (.cells #[] 3)
    have yE : (wr.alloc (.cells #[] 3)).cell? ⟨w.heap.size + 1 + 1 + 1, k, none⟩ = some (.slice (some ⟨w.heap.size + k, 0, none⟩) 3 3) := (nbE.cell (p := ⟨w.heap.size + 1 + 1 + 1, k, none⟩) (Nat.lt_of_lt_of_le hO3 hb.size)).trans y0
    go_wp2_with (at_builtin; refine wpList_append_own _ rfl _ _ 46 rfl wr.heap.size 3 i0 (.int .i64 0) 1 8 Tryd.underlying46 hi hz0 hz1 hz2 rfl (by decide) _ _ _ rfl hE ⟨w.heap.size + k, 0, none⟩ n 3 ((triF n k).map (Value.int .i64)) rfl ?cl ?c1 ?c2 ?c3 ?c4 ?c5 ?_)
    case cl => exact hT8
    case c1 => exact tri_news RkE
    case c2 => intro u hu; obtain ⟨a, _, rfl⟩ := List.mem_map.1 hu; rfl
    case c3 => unfold maxLen; omega
    case c4 => omega
    case c5 => simp
    intro v1 w1 hown1 hg1 hnil1
    have hown1' : w1.ownsRow wr.heap.size 3 1 v1 n ((triF n k).map (Value.int .i64)) := by simpa using hown1
    replace hown1 := hown1'
    clear hown1'
    have b1 : Below wr.heap.size wr w1 := nbE.grown hg1 (by simp) (fun q hq => by have := own_ge hE hq; omega)
    have hne1 : v1 ≠ .slice none 0 0 := fun e => by
      exact hnil1 e
    obtain ⟨blk', cp', rfl, hI1, hO⟩ := hI.snoc hb.size b1 hown1 hne1
    have hownw := own_below2 hown b1
    have hb1 := hb.trans (b1.mono hb.size)
    clear hnil1 hne1 hg1 hE nbE RkE yE hown1
    go_wp2_with (at_builtin; refine wpList_append_own _ rfl _ _ 26 rfl w4.heap.size 46 i1 (.slice none 0 0) 1 24 Tryd.underlying26 hj hy0 hy1 hy2 rfl (by decide) _ _ _ rfl (hownw.alloc _) ⟨w1.heap.size, 0, none⟩ 1 1 [.slice (some ⟨blk' k, 0, none⟩) n (cp' k)] rfl rfl ?c1 ?c2 ?c3 ?c4 ?c5 ?_)
    case c1 => exact cell_one_new _ _ _
    case c2 => intro u hu; simp at hu; subst hu; rfl
    case c3 => unfold maxLen; omega
    case c4 => omega
    case c5 => have := hb1.size; simp; omega
    intro v2 w2 hown2 hg2 _
    have b2 : Below w4.heap.size w4 w2 := (hb1.alloc hb1.size _).grown hg2 (by have := hb1.size; simp; omega) (fun q hq => by have := own_ge hownw hq; omega)
    have hI2 := (hI1.below ((Below.refl w1.heap.size w1).alloc (Nat.le_refl _) _)).grown (hownw.alloc _) hg2
    rw [← hO] at hown2
    go_wp2_with fail
    go_roundw
    case rel => exact ⟨k + 1, blk', cp', by omega, by go_num, hown2, hI2, b2⟩
    case measure => simp [intOf]; omega
/-- the program's table lies -/
def TriesAt (w : World) : Prop := 0 < w.heap.size ∧ ∀ j, j < 9 → w.cell? ⟨0, j, none⟩ = some (.int .i64 (([0, 0, 0, 1, 2, 3, 255, 16, 7] : List Int).getD j 0))
theorem TriesAt.below {w w' : World} {B : Nat} (h : TriesAt w) (hb : Below B w w') (hB : 0 < B) : TriesAt w' := ⟨Nat.lt_of_lt_of_le h.1 hb.size, fun j hj => (hb.cell (p := ⟨0, j, none⟩) hB).trans (h.2 j hj)⟩
theorem idx0 (w : World) : (Instr.index 64 (.agg #[.int .i64 0, .int .i64 0, .int .i64 0, .int .i64 1, .int .i64 2, .int .i64 3, .int .i64 255, .int .i64 16, .int .i64 7]) (.int .i64 0)).run Tryd.prog w = .ok (.agg #[.int .i64 0, .int .i64 0, .int .i64 0]) w := by kernel_rfl
theorem idx1 (w : World) : (Instr.index 64 (.agg #[.int .i64 0, .int .i64 0, .int .i64 0, .int .i64 1, .int .i64 2, .int .i64 3, .int .i64 255, .int .i64 16, .int .i64 7]) (.int .i64 1)).run Tryd.prog w = .ok (.agg #[.int .i64 1, .int .i64 2, .int .i64 3]) w := by kernel_rfl
theorem idx2 (w : World) : (Instr.index 64 (.agg #[.int .i64 0, .int .i64 0, .int .i64 0, .int .i64 1, .int .i64 2, .int .i64 3, .int .i64 255, .int .i64 16, .int .i64 7]) (.int .i64 2)).run Tryd.prog w = .ok (.agg #[.int .i64 255, .int .i64 16, .int .i64 7]) w := by kernel_rfl
set_option maxRecDepth 100000 in
set_option maxHeartbeats 2000000 in
theorem impl_triesOf (n : Nat) (hn : n ≤ 3) (w : World) (ht : TriesAt w) : Calls Tryd.prog 18 #[.int .i64 (n : Int)] w (GP w 3 n) := by
  obtain ⟨i1, hj, hy0, hy1, hy2⟩ := info_parts Tryd.info_ints
  have x0 := idx0
  have x1 := idx1
  have x2 := idx2
  have t0 : w.cell? ⟨0, 0, none⟩ = some (.int .i64 0) := ht.2 0 (by omega)
  have t1 : w.cell? ⟨0, 1, none⟩ = some (.int .i64 0) := ht.2 1 (by omega)
  have t2 : w.cell? ⟨0, 2, none⟩ = some (.int .i64 0) := ht.2 2 (by omega)
  have t3 : w.cell? ⟨0, 3, none⟩ = some (.int .i64 1) := ht.2 3 (by omega)
  have t4 : w.cell? ⟨0, 4, none⟩ = some (.int .i64 2) := ht.2 4 (by omega)
  have t5 : w.cell? ⟨0, 5, none⟩ = some (.int .i64 3) := ht.2 5 (by omega)
  have t6 : w.cell? ⟨0, 6, none⟩ = some (.int .i64 255) := ht.2 6 (by omega)
  have t7 : w.cell? ⟨0, 7, none⟩ = some (.int .i64 16) := ht.2 7 (by omega)
  have t8 : w.cell? ⟨0, 8, none⟩ = some (.int .i64 7) := ht.2 8 (by omega)
  go_enter Tryd.func18, Tryd.ntmps18
  go_wp2_with fail
  go_loopw [3, 7] (fun v i wr => ∃ (k : Nat) (blk cp : Nat → Nat), k ≤ 3 ∧ i = .int .i64 (k : Int) ∧ wr.ownsRow w.heap.size 46 1 v k (outC k n blk cp) ∧ InnerOK wr w.heap.size k n blk cp ∧ Below w.heap.size w wr) (fun _ i _ => 3 - (intOf i).toNat)
  case atStart => exact ⟨0, fun _ => 0, fun _ => 0, by omega, rfl, ⟨rfl, Or.inl ⟨rfl, rfl⟩⟩, InnerOK.zero _ _ _ _ _, Below.refl _ _⟩
  case round =>
    obtain ⟨k, blk, cp, hk, rfl, hown, hI, hb⟩ := hrel
    have hn3 : (n : Int) ≤ 3 := by omega
    obtain rfl | rfl | rfl | rfl : k = 0 ∨ k = 1 ∨ k = 2 ∨ k = 3 := by omega
    case inr.inr.inr =>
      go_wp2_with fail
      go_ret
      exact ⟨_, rfl, grid_of hown hI hn (Nat.le_refl _) (Nat.le_refl _), hb⟩
    · have RB := Row.new wr 63 #[.int .i64 0, .int .i64 0, .int .i64 0]
      have nbB : Below wr.heap.size wr (wr.alloc (.cells #[.int .i64 0, .int .i64 0, .int .i64 0] 63)) := (Below.refl _ _).alloc (Nat.le_refl _) _
      have hIb := hI.below nbB
      have hownb := own_below2 hown nbB
      have hbb := hb.trans (nbB.mono hb.size)
      go_upto_region 5 with fail
      clear nbB hI hown hb t0 t1 t2 t3 t4 t5 t6 t7 t8
      generalize wr.alloc (.cells #[.int .i64 0, .int .i64 0, .int .i64 0] 63) = wb at RB hIb hownb hbb ⊢
      generalize wr.heap.size = gb at RB ⊢
      go_wp2_with fail
      refine (Tryd.slices_Clone_int gb 0 n 3 (triesL 0) wb (by rw [triesL_len]; exact hn) (by omega) (by
        intro j hj
        rw [triesL_len] at hj
        rw [Nat.zero_add, RB.cell j]
        obtain rfl | rfl | rfl : j = 0 ∨ j = 1 ∨ j = 2 := by omega
        all_goals rfl)).mono ?_
      rintro e w1 ⟨v1, rfl, hown1, hne1, b1⟩
      obtain ⟨blk', cp', rfl, hI1, hO⟩ := hIb.snoc hbb.size b1 hown1 hne1
      have hownw := own_below2 hownb b1
      have hb1 := hbb.trans (b1.mono hbb.size)
      clear hne1 hown1 b1
      go_wp2_with (at_builtin; refine wpList_append_own _ rfl _ _ 26 rfl w.heap.size 46 i1 (.slice none 0 0) 1 24 Tryd.underlying26 hj hy0 hy1 hy2 rfl (by decide) _ _ _ rfl (hownw.alloc _) ⟨w1.heap.size, 0, none⟩ 1 1 [.slice (some ⟨blk' 0, 0, none⟩) n (cp' 0)] rfl rfl ?c1 ?c2 ?c3 ?c4 ?c5 ?_)
      case c1 => exact cell_one_new _ _ _
      case c2 => intro u hu; simp at hu; subst hu; rfl
      case c3 => unfold maxLen; omega
      case c4 => omega
      case c5 => have := hb1.size; simp; omega
      intro v2 w2 hown2 hg2 _
      have b2 : Below w.heap.size w w2 := (hb1.alloc hb1.size _).grown hg2 (by have := hb1.size; simp; omega) (fun q hq => by have := own_ge hownw hq; omega)
      have hI2 := (hI1.below ((Below.refl w1.heap.size w1).alloc (Nat.le_refl _) _)).grown (hownw.alloc _) hg2
      rw [← hO] at hown2
      go_wp2_with fail
      go_roundw
      case rel => exact ⟨0 + 1, blk', cp', by omega, by go_num, hown2, hI2, b2⟩
      case measure => simp [intOf]
    · have RB := Row.new wr 63 #[.int .i64 1, .int .i64 2, .int .i64 3]
      have nbB : Below wr.heap.size wr (wr.alloc (.cells #[.int .i64 1, .int .i64 2, .int .i64 3] 63)) := (Below.refl _ _).alloc (Nat.le_refl _) _
      have hIb := hI.below nbB
      have hownb := own_below2 hown nbB
      have hbb := hb.trans (nbB.mono hb.size)
      go_upto_region 5 with fail
      clear nbB hI hown hb t0 t1 t2 t3 t4 t5 t6 t7 t8
      generalize wr.alloc (.cells #[.int .i64 1, .int .i64 2, .int .i64 3] 63) = wb at RB hIb hownb hbb ⊢
      generalize wr.heap.size = gb at RB ⊢
      go_wp2_with fail
      refine (Tryd.slices_Clone_int gb 0 n 3 (triesL 1) wb (by rw [triesL_len]; exact hn) (by omega) (by
        intro j hj
        rw [triesL_len] at hj
        rw [Nat.zero_add, RB.cell j]
        obtain rfl | rfl | rfl : j = 0 ∨ j = 1 ∨ j = 2 := by omega
        all_goals rfl)).mono ?_
      rintro e w1 ⟨v1, rfl, hown1, hne1, b1⟩
      obtain ⟨blk', cp', rfl, hI1, hO⟩ := hIb.snoc hbb.size b1 hown1 hne1
      have hownw := own_below2 hownb b1
      have hb1 := hbb.trans (b1.mono hbb.size)
      clear hne1 hown1 b1
      go_wp2_with (at_builtin; refine wpList_append_own _ rfl _ _ 26 rfl w.heap.size 46 i1 (.slice none 0 0) 1 24 Tryd.underlying26 hj hy0 hy1 hy2 rfl (by decide) _ _ _ rfl (hownw.alloc _) ⟨w1.heap.size, 0, none⟩ 1 1 [.slice (some ⟨blk' 1, 0, none⟩) n (cp' 1)] rfl rfl ?c1 ?c2 ?c3 ?c4 ?c5 ?_)
      case c1 => exact cell_one_new _ _ _
      case c2 => intro u hu; simp at hu; subst hu; rfl
      case c3 => unfold maxLen; omega
      case c4 => omega
      case c5 => have := hb1.size; simp; omega
      intro v2 w2 hown2 hg2 _
      have b2 : Below w.heap.size w w2 := (hb1.alloc hb1.size _).grown hg2 (by have := hb1.size; simp; omega) (fun q hq => by have := own_ge hownw hq; omega)
      have hI2 := (hI1.below ((Below.refl w1.heap.size w1).alloc (Nat.le_refl _) _)).grown (hownw.alloc _) hg2
      rw [← hO] at hown2
      go_wp2_with fail
      go_roundw
      case rel => exact ⟨1 + 1, blk', cp', by omega, by go_num, hown2, hI2, b2⟩
      case measure => simp [intOf]
    · have RB := Row.new wr 63 #[.int .i64 255, .int .i64 16, .int .i64 7]
      have nbB : Below wr.heap.size wr (wr.alloc (.cells #[.int .i64 255, .int .i64 16, .int .i64 7] 63)) := (Below.refl _ _).alloc (Nat.le_refl _) _
      have hIb := hI.below nbB
      have hownb := own_below2 hown nbB
      have hbb := hb.trans (nbB.mono hb.size)
      go_upto_region 5 with fail
      clear nbB hI hown hb t0 t1 t2 t3 t4 t5 t6 t7 t8
      generalize wr.alloc (.cells #[.int .i64 255, .int .i64 16, .int .i64 7] 63) = wb at RB hIb hownb hbb ⊢
      generalize wr.heap.size = gb at RB ⊢
      go_wp2_with fail
      refine (Tryd.slices_Clone_int gb 0 n 3 (triesL 2) wb (by rw [triesL_len]; exact hn) (by omega) (by
        intro j hj
        rw [triesL_len] at hj
        rw [Nat.zero_add, RB.cell j]
        obtain rfl | rfl | rfl : j = 0 ∨ j = 1 ∨ j = 2 := by omega
        all_goals rfl)).mono ?_
      rintro e w1 ⟨v1, rfl, hown1, hne1, b1⟩
      obtain ⟨blk', cp', rfl, hI1, hO⟩ := hIb.snoc hbb.size b1 hown1 hne1
      have hownw := own_below2 hownb b1
      have hb1 := hbb.trans (b1.mono hbb.size)
      clear hne1 hown1 b1
      go_wp2_with (at_builtin; refine wpList_append_own _ rfl _ _ 26 rfl w.heap.size 46 i1 (.slice none 0 0) 1 24 Tryd.underlying26 hj hy0 hy1 hy2 rfl (by decide) _ _ _ rfl (hownw.alloc _) ⟨w1.heap.size, 0, none⟩ 1 1 [.slice (some ⟨blk' 2, 0, none⟩) n (cp' 2)] rfl rfl ?c1 ?c2 ?c3 ?c4 ?c5 ?_)
      case c1 => exact cell_one_new _ _ _
      case c2 => intro u hu; simp at hu; subst hu; rfl
      case c3 => unfold maxLen; omega
      case c4 => omega
      case c5 => have := hb1.size; simp; omega
      intro v2 w2 hown2 hg2 _
      have b2 : Below w.heap.size w w2 := (hb1.alloc hb1.size _).grown hg2 (by have := hb1.size; simp; omega) (fun q hq => by have := own_ge hownw hq; omega)
      have hI2 := (hI1.below ((Below.refl w1.heap.size w1).alloc (Nat.le_refl _) _)).grown (hownw.alloc _) hg2
      rw [← hO] at hown2
      go_wp2_with fail
      go_roundw
      case rel => exact ⟨2 + 1, blk', cp', by omega, by go_num, hown2, hI2, b2⟩
      case measure => simp [intOf]
end Go.Proofs.YtlhnojpkomcpmaaDoor
