/-
  Codes in memory of a call's own are marked, number by number, and asked for their marks. Conditions: their blocks lie apart.
-/
import Derived.Test.YtgcjccoglcgcoaaUpd
import Derived.Test.YtgcjccoglcgcoaaVis
import Derived.Test.YtgcjccoglcgcoaaHeld
import Derived.Test.YtgcjccoglcgcoaaUnitB
namespace Go.Proofs.Ytgcjccoglcgcoaa
open Go.RowKit Go.ChangeShapes Go.WideShapes Go.Deep
set_option linter.unusedVariables false
set_option linter.unusedSimpArgs false
/-- the list with its marks, from k on; c a marks for the element a -/
def mkL {α : Type} (c : α → Nat) (m : α → Int → α) : List α → Int → List α
  | [], _ => []
  | a :: r, k => m a k :: mkL c m r (k + (c a : Nat))
theorem mkL_length {α : Type} (c : α → Nat) (m : α → Int → α) : ∀ (l : List α) (k : Int), (mkL c m l k).length = l.length
  | [], k => rfl
  | a :: r, k => by rw [mkL, List.length_cons, List.length_cons, mkL_length]
theorem mkL_snoc {α : Type} (c : α → Nat) (m : α → Int → α) : ∀ (l : List α) (a : α) (k : Int), mkL c m (l ++ [a]) k = mkL c m l k ++ [m a (k + (sumBy c l : Nat))]
  | [], a, k => by simp [mkL, sumBy]
  | b :: r, a, k => by
    rw [List.cons_append, mkL, mkL_snoc c m r a, mkL, sumBy_cons, List.cons_append]
    congr 4
    omega
theorem mkL_get {α : Type} (c : α → Nat) (m : α → Int → α) : ∀ (l : List α) (k : Int) (i : Nat) (a : α), l[i]? = some a → (mkL c m l k)[i]? = some (m a (k + (sumBy c (l.take i) : Nat)))
  | [], k, i, a, h => by simp at h
  | b :: r, k, 0, a, h => by
    simp at h
    subst h
    simp [mkL, sumBy]
  | b :: r, k, i + 1, a, h => by
    rw [List.getElem?_cons_succ] at h
    rw [mkL, List.getElem?_cons_succ, mkL_get c m r _ i a h, List.take_succ_cons, sumBy_cons]
    congr 2
    omega
/-- the first j elements have their marks -/
def halfM {α : Type} (c : α → Nat) (m : α → Int → α) (l : List α) (k : Int) (j : Nat) : List α := mkL c m (l.take j) k ++ l.drop j
theorem halfM_zero {α : Type} (c : α → Nat) (m : α → Int → α) (l : List α) (k : Int) : halfM c m l k 0 = l := by simp [halfM, mkL]
theorem halfM_end {α : Type} (c : α → Nat) (m : α → Int → α) (l : List α) (k : Int) : halfM c m l k l.length = mkL c m l k := by simp [halfM]
theorem halfM_get {α : Type} (c : α → Nat) (m : α → Int → α) (l : List α) (k : Int) {j : Nat} {a : α} (hj : j < l.length) (ha : l[j] = a) : (halfM c m l k j)[j]? = some a := by
  unfold halfM
  have h1 : (mkL c m (l.take j) k).length = j := by rw [mkL_length]; simp; omega
  rw [List.getElem?_append_right (by omega), h1]
  simp [← ha, hj]
theorem halfM_set {α : Type} (c : α → Nat) (m : α → Int → α) (l : List α) (k : Int) {j : Nat} {a : α} (hj : j < l.length) (ha : l[j] = a) : (halfM c m l k j).set j (m a (k + (sumBy c (l.take j) : Nat))) = halfM c m l k (j + 1) := by
  subst ha
  unfold halfM
  have h1 : (mkL c m (l.take j) k).length = j := by rw [mkL_length]; simp; omega
  rw [List.set_append_right _ _ (by omega), h1, Nat.sub_self, List.drop_eq_getElem_cons hj, List.set_cons_zero, List.take_succ_eq_append_getElem hj, mkL_snoc, List.append_assoc]
  rfl
def c1 (a : Int) : Nat := 1
def m1 (a : Int) (k : Int) : Int := k
def cP (f : PhiD) : Nat := 1 + f.args.length
def mP (f : PhiD) (k : Int) : PhiD := ⟨k, marksL (k + 1) f.args.length⟩
def cI (x : InsD) : Nat := 3 + x.args.length
def mI (x : InsD) (k : Int) : InsD := ⟨k, k + 1, marksL (k + 2) x.args.length, k + 2 + (x.args.length : Nat)⟩
def cB (x : BlkD) : Nat := sumBy cP x.phis + sumBy cI x.ins + 2 + x.next.length
def mB (x : BlkD) (k : Int) : BlkD := ⟨mkL cP mP x.phis k, mkL cI mI x.ins (k + (sumBy cP x.phis : Nat)), k + (sumBy cP x.phis : Nat) + (sumBy cI x.ins : Nat), k + (sumBy cP x.phis : Nat) + (sumBy cI x.ins : Nat) + 1, marksL (k + (sumBy cP x.phis : Nat) + (sumBy cI x.ins : Nat) + 2) x.next.length⟩
def cC (c : CodeD) : Nat := 2 + sumBy cB c.blocks
def mC (c : CodeD) (k : Int) : CodeD := ⟨k, k + 1, mkL cB mB c.blocks (k + 2)⟩
theorem sumBy_c1 (l : List Int) : sumBy c1 l = l.length := by
  induction l with
  | nil => rfl
  | cons a r ih => rw [sumBy_cons, ih, List.length_cons]; simp [c1]; omega
theorem mkL_ints (l : List Int) (k : Int) : mkL c1 m1 l k = marksL k l.length := by
  apply List.ext_getElem?
  intro i
  by_cases h : i < l.length
  · rw [mkL_get c1 m1 l k i _ (List.getElem?_eq_getElem h), sumBy_c1]
    have h2 : i < (marksL k l.length).length := by rw [marksL_length]; exact h
    rw [List.getElem?_eq_getElem h2, marksL_get]
    simp [m1]
    omega
  · rw [List.getElem?_eq_none (by rw [mkL_length]; omega), List.getElem?_eq_none (by rw [marksL_length]; omega)]
theorem sumBy_three {α : Type} {c n : α → Nat} (h : ∀ a, c a ≤ 3 * (1 + n a)) : ∀ l : List α, sumBy c l ≤ 3 * (l.length + sumBy n l)
  | [] => by simp [sumBy]
  | a :: r => by
    have h1 := h a
    have h2 := sumBy_three h r
    rw [sumBy_cons, sumBy_cons, List.length_cons]
    omega
theorem cP_le (l : List PhiD) : sumBy cP l ≤ 3 * (l.length + sumBy phiN l) := sumBy_three (fun a => by unfold cP phiN; omega) l
theorem cI_le (l : List InsD) : sumBy cI l ≤ 3 * (l.length + sumBy insN l) := sumBy_three (fun a => by unfold cI insN; omega) l
theorem cB_le (l : List BlkD) : sumBy cB l ≤ 3 * (l.length + sumBy blkN l) := sumBy_three (fun a => by
  have h1 := cP_le a.phis
  have h2 := cI_le a.ins
  unfold cB blkN
  omega) l
theorem cC_le (l : List CodeD) : sumBy cC l ≤ 3 * (l.length + sumBy codeN l) := sumBy_three (fun a => by
  have h1 := cB_le a.blocks
  unfold cC codeN
  omega) l
def MkP {α : Type} (S : Fsh α) (t : TypeId) (l' : List α) (fp : List Nat) (M : Nat) (A : Option Addr) (n cap : Nat) (r : Int) (w : World) (e : Ending) (w' : World) : Prop :=
  e = .returned (.int .i64 r) ∧ SlF S t w' fp l' (.slice A n cap) ∧ Fr fp M w w'
set_option maxRecDepth 100000 in
theorem markF_IntS (l : List Int) (A : Option Addr) (cap M : Nat) (k : Int) (w : World) (g : List Nat) (h : SlF intF 3 w g l (.slice A l.length cap)) (hnd : g.Nodup) (hM : M ∉ g) (k0 : 0 ≤ k) (hk : k + (l.length : Nat) ≤ 1073741824) :
    Calls Try.prog 76 #[.slice A l.length cap, .int .i64 k] w (MkP intF 3 (marksL k l.length) g M A l.length cap (k + (l.length : Nat)) w) := by
  have hcl : l.length ≤ cap := by
    obtain ⟨_, _, hv, h1, _, _⟩ := h
    injection hv with _ _ hv
    omega
  have hcm : cap ≤ 9223372036854775807 := by
    obtain ⟨_, _, hv, _, h1, _⟩ := h
    injection hv with _ _ hv
    unfold maxLen at h1
    omega
  replace hnd := Lib.hid hnd
  go_enter Try.func76, Try.ntmps76
  go_wp2_with fail
  go_loopw [1, 5] (fun t i wr => ∃ j : Nat, j ≤ l.length ∧ i = .int .i64 j ∧ t = .int .i64 (k + j) ∧ SlF intF 3 wr g (halfM c1 m1 l k j) (.slice A l.length cap) ∧ Fr g M w wr) (fun _ i _ => l.length - (intOf i).toNat)
  case atStart => exact ⟨0, by omega, rfl, by simp, by rw [halfM_zero]; exact h, Fr.refl _ _ _⟩
  case round =>
    clear h
    obtain ⟨j, hj, rfl, rfl, sl, fr⟩ := hrel
    by_cases hjl : j < l.length
    · obtain ⟨b, rfl, hb, d0, df0, _, close⟩ := look_int sl hnd.out (halfM_get c1 m1 l k hjl rfl)
      have hbM : b ≠ M := fun e => hM (e ▸ hb)
      obtain ⟨s2, fr2⟩ := close M (k + j) _ hM ⟨by omega, by omega⟩ (Upd.set (w := wr) (w1 := wr) (Below.refl _ _) (fun _ _ => rfl) hbM)
      have E : (halfM c1 m1 l k j).set j (k + j) = halfM c1 m1 l k (j + 1) := by
        have := halfM_set c1 m1 l k hjl rfl
        rw [sumBy_c1, List.length_take, Nat.min_eq_left (by omega)] at this
        exact this
      rw [E] at s2
      clear E close
      have hjn : (j : Int) < (l.length : Int) := by omega
      go_wp2_with fail
      go_roundw
      case rel => exact ⟨j + 1, by omega, by go_num, by go_num, s2, fr.trans fr2⟩
      case measure => simp [intOf]; omega
    · obtain rfl : j = l.length := by omega
      rw [halfM_end, mkL_ints] at sl
      have hjn : ¬ (l.length : Int) < (l.length : Int) := by omega
      go_wp2_with fail
      go_ret
      exact ⟨rfl, sl, fr⟩
set_option maxRecDepth 100000 in
set_option maxHeartbeats 4000000 in
theorem markF_PhiS (l : List PhiD) (A : Option Addr) (cap M : Nat) (k : Int) (w : World) (fp : List Nat) (h : SlF phF 69 w fp l (.slice A l.length cap)) (hnd : fp.Nodup) (hM : M ∉ fp) (k0 : 0 ≤ k) (hk : k + (sumBy cP l : Nat) ≤ 1073741824) (hl : l.length ≤ 1048576) :
    Calls Try.prog 74 #[.slice A l.length cap, .int .i64 k] w (MkP phF 69 (mkL cP mP l k) fp M A l.length cap (k + (sumBy cP l : Nat)) w) := by
  replace hnd := Lib.hid hnd
  go_enter Try.func74, Try.ntmps74
  go_wp2_with fail
  go_loopw [1, 5] (fun t i wr => ∃ j : Nat, j ≤ l.length ∧ i = .int .i64 j ∧ t = .int .i64 (k + (sumBy cP (l.take j) : Nat)) ∧ SlF phF 69 wr fp (halfM cP mP l k j) (.slice A l.length cap) ∧ Fr fp M w wr) (fun _ i _ => l.length - (intOf i).toNat)
  case atStart => exact ⟨0, by omega, rfl, by simp [sumBy], by rw [halfM_zero]; exact h, Fr.refl _ _ _⟩
  case round =>
    clear h
    obtain ⟨j, hj, rfl, rfl, sl, fr⟩ := hrel
    by_cases hjl : j < l.length
    case neg =>
      obtain rfl : j = l.length := by omega
      rw [halfM_end] at sl
      have hjn : ¬ (l.length : Int) < (l.length : Int) := by omega
      have ET : sumBy cP (l.take l.length) = sumBy cP l := by rw [List.take_length]
      rw [ET]
      clear ET
      go_wp2_with fail
      go_ret
      exact ⟨rfl, sl, fr⟩
    obtain ⟨x, hx⟩ : ∃ x, l[j] = x := ⟨_, rfl⟩
    obtain ⟨T, hT⟩ : ∃ T, sumBy cP (l.take j) = T := ⟨_, rfl⟩
    have HT : Hid (sumBy cP (l.take (j + 1)) = T + cP x) := by
      show _ = _
      rw [sumBy_takeU hjl hx, hT]
    have HL : sumBy cP (l.take (j + 1)) ≤ sumBy cP l := sumBy_leU cP l (j + 1)
    rw [HT.out] at HL
    have E : Hid ((halfM cP mP l k j).set j (mP x (k + (T : Nat))) = halfM cP mP l k (j + 1)) := by
      have := halfM_set cP mP l k hjl hx
      rw [hT] at this
      exact this
    rw [hT]
    replace hT := Lib.hid hT
    have hjn : (j : Int) < (l.length : Int) := by omega
    have hji : (0 : Int) ≤ (j : Int) := by omega
    obtain ⟨t, ht⟩ : ∃ t : Int, k + (T : Int) = t := ⟨_, rfl⟩
    have ht0 : 0 ≤ t := by omega
    rw [ht]
    obtain ⟨⟨tg, args⟩, hxe⟩ : ∃ y, y = x := ⟨_, rfl⟩
    subst hxe
    have HL' : (T : Int) + 1 + (args.length : Int) ≤ (sumBy cP l : Int) := by
      have : T + (1 + args.length) ≤ sumBy cP l := HL
      omega
    have ht1 : t + 1 + (args.length : Int) ≤ 1073741824 := by omega
    have ht64 : I64 t := ⟨by omega, by omega⟩
    obtain ⟨b, g, va, rfl, hbf, hgf, hbg, gn, e0, ef0, e1, _, sla, far1, close1⟩ := look_phi sl hnd.out (halfM_get cP mP l k hjl hx)
    replace sla : SlF intF 3 wr g args va := sla
    obtain ⟨A1, p1, hf, _, _⟩ := sla.form
    subst hf
    have hbM : b ≠ M := fun e => hM (e ▸ hbf)
    have hMg : M ∉ g := fun h => hM (hgf M h)
    have up1 : Upd wr b (j * 2) t M (wr.setCell ⟨b, j * 2, none⟩ (.int .i64 t)) := Upd.set (Below.refl _ _) (fun _ _ => rfl) hbM
    obtain ⟨e1', sla1, fr1⟩ := far1 M _ _ hM up1
    clear far1 HL hx hk
    go_wp2_with fail
    refine (markF_IntS args A1 p1 M (t + 1) _ g sla1 gn hMg (by omega) ht1).mono ?_
    rintro e w3 ⟨rfl, sl3, fr3⟩
    obtain ⟨sl7, fr7⟩ := close1 M t _ w3 _ hM ht64 up1 fr3 sl3
    have E7 : (⟨t, marksL (t + 1) args.length⟩ : PhiD) = mP ⟨tg, args⟩ (k + (T : Nat)) := by
      rw [ht]
      rfl
    rw [E7, E.out] at sl7
    have ET : Hid (t + 1 + (args.length : Nat) = k + (sumBy cP (l.take (j + 1)) : Nat)) := by
      show _ = _
      rw [HT.out, ← ht, show cP ⟨tg, args⟩ = 1 + args.length from rfl]
      omega
    clear E7 E ht hT HT
    go_wp2_with fail
    go_roundw
    case rel => exact ⟨j + 1, by omega, by go_num, by rw [← ET.out], sl7, fr.trans fr7⟩
    case measure => simp [intOf]; omega
set_option maxRecDepth 100000 in
set_option maxHeartbeats 4000000 in
theorem markF_InsS (l : List InsD) (A : Option Addr) (cap M : Nat) (k : Int) (w : World) (fp : List Nat) (h : SlF isF 72 w fp l (.slice A l.length cap)) (hnd : fp.Nodup) (hM : M ∉ fp) (k0 : 0 ≤ k) (hk : k + (sumBy cI l : Nat) ≤ 1073741824) (hl : l.length ≤ 1048576) :
    Calls Try.prog 75 #[.slice A l.length cap, .int .i64 k] w (MkP isF 72 (mkL cI mI l k) fp M A l.length cap (k + (sumBy cI l : Nat)) w) := by
  replace hnd := Lib.hid hnd
  go_enter Try.func75, Try.ntmps75
  go_wp2_with fail
  go_loopw [1, 5] (fun t i wr => ∃ j : Nat, j ≤ l.length ∧ i = .int .i64 j ∧ t = .int .i64 (k + (sumBy cI (l.take j) : Nat)) ∧ SlF isF 72 wr fp (halfM cI mI l k j) (.slice A l.length cap) ∧ Fr fp M w wr) (fun _ i _ => l.length - (intOf i).toNat)
  case atStart => exact ⟨0, by omega, rfl, by simp [sumBy], by rw [halfM_zero]; exact h, Fr.refl _ _ _⟩
  case round =>
    clear h
    obtain ⟨j, hj, rfl, rfl, sl, fr⟩ := hrel
    by_cases hjl : j < l.length
    case neg =>
      obtain rfl : j = l.length := by omega
      rw [halfM_end] at sl
      have hjn : ¬ (l.length : Int) < (l.length : Int) := by omega
      have ET : sumBy cI (l.take l.length) = sumBy cI l := by rw [List.take_length]
      rw [ET]
      clear ET
      go_wp2_with fail
      go_ret
      exact ⟨rfl, sl, fr⟩
    obtain ⟨x, hx⟩ : ∃ x, l[j] = x := ⟨_, rfl⟩
    obtain ⟨T, hT⟩ : ∃ T, sumBy cI (l.take j) = T := ⟨_, rfl⟩
    have HT : Hid (sumBy cI (l.take (j + 1)) = T + cI x) := by
      show _ = _
      rw [sumBy_takeU hjl hx, hT]
    have HL : sumBy cI (l.take (j + 1)) ≤ sumBy cI l := sumBy_leU cI l (j + 1)
    rw [HT.out] at HL
    have E : Hid ((halfM cI mI l k j).set j (mI x (k + (T : Nat))) = halfM cI mI l k (j + 1)) := by
      have := halfM_set cI mI l k hjl hx
      rw [hT] at this
      exact this
    rw [hT]
    replace hT := Lib.hid hT
    have hjn : (j : Int) < (l.length : Int) := by omega
    have hji : (0 : Int) ≤ (j : Int) := by omega
    obtain ⟨t, ht⟩ : ∃ t : Int, k + (T : Int) = t := ⟨_, rfl⟩
    have ht0 : 0 ≤ t := by omega
    rw [ht]
    obtain ⟨⟨op, tg, args, n⟩, hxe⟩ : ∃ y, y = x := ⟨_, rfl⟩
    subst hxe
    have HL' : (T : Int) + 3 + (args.length : Int) ≤ (sumBy cI l : Int) := by
      have : T + (3 + args.length) ≤ sumBy cI l := HL
      omega
    have ht1 : t + 3 + (args.length : Int) ≤ 1073741824 := by omega
    obtain ⟨b, cur, g, cs, rfl, R, hbf, hgf, hbg, gn, ⟨va, rfl, _, _, _, sla⟩, hc, close⟩ := sl.look' hnd.out (halfM_get cI mI l k hjl hx)
    replace sla : SlF intF 3 wr g args va := sla
    obtain ⟨A1, p1, hf, _, _⟩ := sla.form
    subst hf
    have hbM : b ≠ M := fun e => hM (e ▸ hbf)
    have hMg : M ∉ g := fun h => hM (hgf M h)
    have c0 : cur[j * 4]? = some (.int .i64 op) := by simpa [isF] using hc 0 _ rfl
    have c1 : cur[j * 4 + 1]? = some (.int .i64 tg) := by simpa [isF] using hc 1 _ rfl
    have c2 : cur[j * 4 + 2]? = some (.slice A1 args.length p1) := by simpa [isF] using hc 2 _ rfl
    have c3 : cur[j * 4 + 3]? = some (.int .i64 n) := by simpa [isF] using hc 3 _ rfl
    have e0 : wr.cell? ⟨b, j * 4, none⟩ = some (.int .i64 op) := (R.cell _).trans c0
    have ef0 := R.frozen (j * 4)
    have R1 := R.set_ (j * 4) (.int .i64 t)
    have e1 : (wr.setCell ⟨b, j * 4, none⟩ (.int .i64 t)).cell? ⟨b, j * 4 + 1, none⟩ = some (.int .i64 tg) := (R1.cell _).trans ((cur_set_ne (by omega)).trans c1)
    have ef1 := R1.frozen (j * 4 + 1)
    have R2 := R1.set_ (j * 4 + 1) (.int .i64 (t + 1))
    have e2 : ((wr.setCell ⟨b, j * 4, none⟩ (.int .i64 t)).setCell ⟨b, j * 4 + 1, none⟩ (.int .i64 (t + 1))).cell? ⟨b, j * 4 + 2, none⟩ = some (.slice A1 args.length p1) := (R2.cell _).trans ((cur_set_ne (by omega)).trans ((cur_set_ne (by omega)).trans c2))
    have kh : ∀ x, x ≠ b → ((wr.setCell ⟨b, j * 4, none⟩ (.int .i64 t)).setCell ⟨b, j * 4 + 1, none⟩ (.int .i64 (t + 1))).heap[x]? = wr.heap[x]? := fun x hx => (Below.heap_setCell _ _ _ x hx).trans (Below.heap_setCell _ _ _ x hx)
    have kb : Below 0 wr ((wr.setCell ⟨b, j * 4, none⟩ (.int .i64 t)).setCell ⟨b, j * 4 + 1, none⟩ (.int .i64 (t + 1))) := ((Below.refl 0 wr).setCell (p := ⟨b, j * 4, none⟩) (Nat.zero_le _) _).setCell (p := ⟨b, j * 4 + 1, none⟩) (Nat.zero_le _) _
    have sla2 := sla.keep (w' := (wr.setCell ⟨b, j * 4, none⟩ (.int .i64 t)).setCell ⟨b, j * 4 + 1, none⟩ (.int .i64 (t + 1))) (fun x hx => kh x (fun e => hbg (e ▸ hx)))
    replace kh := Lib.hid kh
    clear R R1 sl sla hc HL hx hk
    go_wp2_with fail
    refine (markF_IntS args A1 p1 M (t + 1 + 1) _ g sla2 gn hMg (by omega) (by omega)).mono ?_
    rintro e w3 ⟨rfl, sl3, fr3⟩
    have R3 := fr3.row R2 hbg hbM
    have e3 : w3.cell? ⟨b, j * 4 + 3, none⟩ = some (.int .i64 n) := (R3.cell _).trans ((cur_set_ne (by omega)).trans ((cur_set_ne (by omega)).trans c3))
    have ef3 := R3.frozen (j * 4 + 3)
    have R4 := R3.set_ (j * 4 + 3) (.int .i64 (t + 1 + 1 + (args.length : Nat)))
    have sl4 := sl3.keep (w' := w3.setCell ⟨b, j * 4 + 3, none⟩ (.int .i64 (t + 1 + 1 + (args.length : Nat)))) (fun x hx => Below.heap_setCell w3 _ _ x (fun e => hbg (by have : x = b := e; exact this ▸ hx)))
    have sl7 := close _ ⟨t, t + 1, marksL (t + 1 + 1) args.length, t + 1 + 1 + (args.length : Nat)⟩ [.int .i64 t, .int .i64 (t + 1), .slice A1 args.length p1, .int .i64 (t + 1 + 1 + (args.length : Nat))] _ (fun x hx hxg hxb => (Below.heap_setCell w3 _ _ x hxb).trans ((fr3.2 x hxg (fun e => hM (e ▸ hx))).trans (kh.out x hxb))) R4 (by simp) (fun p hp => (cur_set_ne (by simp [isF] at hp; omega)).trans ((cur_set_ne (by simp [isF] at hp; omega)).trans (cur_set_ne (by simp [isF] at hp; omega)))) ⟨_, rfl, ⟨by show -9223372036854775808 ≤ t; omega, by show t ≤ 9223372036854775807; omega⟩, ⟨by show -9223372036854775808 ≤ t + 1; omega, by show t + 1 ≤ 9223372036854775807; omega⟩, ⟨by show -9223372036854775808 ≤ t + 1 + 1 + (args.length : Nat); omega, by show t + 1 + 1 + (args.length : Nat) ≤ 9223372036854775807; omega⟩, sl4⟩ (fun q u hq => by
      match q with
      | 0 =>
        simp at hq
        subst hq
        show (((cur.setIfInBounds (j * 4) (.int .i64 t)).setIfInBounds (j * 4 + 1) (.int .i64 (t + 1))).setIfInBounds (j * 4 + 3) _)[j * 4 + 0]? = _
        rw [Nat.add_zero, cur_set_ne (by omega), cur_set_ne (by omega)]
        exact cur_set_eq c0
      | 1 =>
        simp at hq
        subst hq
        show (((cur.setIfInBounds (j * 4) (.int .i64 t)).setIfInBounds (j * 4 + 1) (.int .i64 (t + 1))).setIfInBounds (j * 4 + 3) _)[j * 4 + 1]? = _
        rw [cur_set_ne (by omega)]
        exact cur_set_eq ((cur_set_ne (by omega)).trans c1)
      | 2 =>
        simp at hq
        subst hq
        show (((cur.setIfInBounds (j * 4) (.int .i64 t)).setIfInBounds (j * 4 + 1) (.int .i64 (t + 1))).setIfInBounds (j * 4 + 3) _)[j * 4 + 2]? = _
        rw [cur_set_ne (by omega), cur_set_ne (by omega), cur_set_ne (by omega)]
        exact c2
      | 3 =>
        simp at hq
        subst hq
        exact cur_set_eq ((cur_set_ne (by omega)).trans ((cur_set_ne (by omega)).trans c3))
      | q + 4 => simp at hq)
    have fr7 : Fr fp M wr (w3.setCell ⟨b, j * 4 + 3, none⟩ (.int .i64 (t + 1 + 1 + (args.length : Nat)))) := ⟨(kb.trans fr3.1).setCell (p := ⟨b, j * 4 + 3, none⟩) (Nat.zero_le _) _, fun x h1 h2 => (Below.heap_setCell w3 _ _ x (fun e => h1 (by have : x = b := e; exact this ▸ hbf))).trans ((fr3.2 x (fun h => h1 (hgf x h)) h2).trans (kh.out x (fun e => h1 (e ▸ hbf))))⟩
    have E7 : (⟨t, t + 1, marksL (t + 1 + 1) args.length, t + 1 + 1 + (args.length : Nat)⟩ : InsD) = mI ⟨op, tg, args, n⟩ (k + (T : Nat)) := by
      rw [ht]
      unfold mI
      rw [show t + 1 + 1 = t + 2 by omega]
    rw [E7, E.out] at sl7
    have ET : Hid (t + 1 + 1 + (args.length : Nat) + 1 = k + (sumBy cI (l.take (j + 1)) : Nat)) := by
      show _ = _
      rw [HT.out, ← ht, show cI ⟨op, tg, args, n⟩ = 3 + args.length from rfl]
      omega
    clear E7 E ht hT HT close c0 c1 c2 c3 R2 R3 R4
    go_wp2_with fail
    go_roundw
    case rel => exact ⟨j + 1, by omega, by go_num, by rw [← ET.out], sl7, fr.trans fr7⟩
    case measure => simp [intOf]; omega
set_option maxRecDepth 100000 in
set_option maxHeartbeats 4000000 in
theorem markF_BlockS (l : List BlkD) (A : Option Addr) (cap M : Nat) (k : Int) (w : World) (fp : List Nat) (h : SlF bkF 65 w fp l (.slice A l.length cap)) (hnd : fp.Nodup) (hM : M ∉ fp) (k0 : 0 ≤ k) (hk : k + (sumBy cB l : Nat) ≤ 1073741824) (hl : l.length + sumBy blkN l ≤ 1048576) :
    Calls Try.prog 45 #[.slice A l.length cap, .int .i64 k] w (MkP bkF 65 (mkL cB mB l k) fp M A l.length cap (k + (sumBy cB l : Nat)) w) := by
  replace hnd := Lib.hid hnd
  go_enter Try.func45, Try.ntmps45
  go_wp2_with fail
  go_loopw [1, 5] (fun t i wr => ∃ j : Nat, j ≤ l.length ∧ i = .int .i64 j ∧ t = .int .i64 (k + (sumBy cB (l.take j) : Nat)) ∧ SlF bkF 65 wr fp (halfM cB mB l k j) (.slice A l.length cap) ∧ Fr fp M w wr) (fun _ i _ => l.length - (intOf i).toNat)
  case atStart => exact ⟨0, by omega, rfl, by simp [sumBy], by rw [halfM_zero]; exact h, Fr.refl _ _ _⟩
  case round =>
    clear h
    obtain ⟨j, hj, rfl, rfl, sl, fr⟩ := hrel
    by_cases hjl : j < l.length
    case neg =>
      obtain rfl : j = l.length := by omega
      rw [halfM_end] at sl
      have hjn : ¬ (l.length : Int) < (l.length : Int) := by omega
      have ET : sumBy cB (l.take l.length) = sumBy cB l := by rw [List.take_length]
      rw [ET]
      clear ET
      go_wp2_with fail
      go_ret
      exact ⟨rfl, sl, fr⟩
    obtain ⟨x, hx⟩ : ∃ x, l[j] = x := ⟨_, rfl⟩
    obtain ⟨T, hT⟩ : ∃ T, sumBy cB (l.take j) = T := ⟨_, rfl⟩
    have HT : Hid (sumBy cB (l.take (j + 1)) = T + cB x) := by
      show _ = _
      rw [sumBy_takeU hjl hx, hT]
    have HL : sumBy cB (l.take (j + 1)) ≤ sumBy cB l := sumBy_leU cB l (j + 1)
    rw [HT.out] at HL
    have E : Hid ((halfM cB mB l k j).set j (mB x (k + (T : Nat))) = halfM cB mB l k (j + 1)) := by
      have := halfM_set cB mB l k hjl hx
      rw [hT] at this
      exact this
    rw [hT]
    replace hT := Lib.hid hT
    have hjn : (j : Int) < (l.length : Int) := by omega
    have hji : (0 : Int) ≤ (j : Int) := by omega
    obtain ⟨t, ht⟩ : ∃ t : Int, k + (T : Int) = t := ⟨_, rfl⟩
    have ht0 : 0 ≤ t := by omega
    rw [ht]
    obtain ⟨⟨phis, ins, jump, on, next⟩, hxe⟩ : ∃ y, y = x := ⟨_, rfl⟩
    subst hxe
    have hNx : (phis.length + sumBy phiN phis) + (ins.length + sumBy insN ins) + next.length ≤ sumBy blkN l := sumBy_mem (a := (⟨phis, ins, jump, on, next⟩ : BlkD)) blkN (hx ▸ List.getElem_mem hjl)
    have hlp : phis.length ≤ 1048576 := by omega
    have hli : ins.length ≤ 1048576 := by omega
    have HL' : (T : Int) + (sumBy cP phis : Nat) + (sumBy cI ins : Nat) + 2 + (next.length : Int) ≤ (sumBy cB l : Int) := by
      have : T + (sumBy cP phis + sumBy cI ins + 2 + next.length) ≤ sumBy cB l := HL
      omega
    obtain ⟨P, hP⟩ : ∃ P, sumBy cP phis = P := ⟨_, rfl⟩
    obtain ⟨Q, hQ⟩ : ∃ Q, sumBy cI ins = Q := ⟨_, rfl⟩
    rw [hP, hQ] at HL'
    have ht1 : t + (P : Int) + (Q : Int) + 2 + (next.length : Int) ≤ 1073741824 := by omega
    obtain ⟨b, cur, f, cs, rfl, R, hbf, hff, hbfn, hfn, ⟨f0, f1, f2, v0, v1, v2, rfl, rfl, _, _, s0, s1, s2⟩, hc, close⟩ := sl.look' hnd.out (halfM_get cB mB l k hjl hx)
    obtain ⟨n0, n1, n2, d01, d02, d12⟩ := app_nodup hfn
    replace s0 : SlF phF 69 wr f0 phis v0 := s0
    replace s1 : SlF isF 72 wr f1 ins v1 := s1
    replace s2 : SlF intF 3 wr f2 next v2 := s2
    obtain ⟨A0, p0, hf, _, _⟩ := s0.form
    subst hf
    obtain ⟨A1, p1, hf, _, _⟩ := s1.form
    subst hf
    obtain ⟨A2, p2, hf, _, _⟩ := s2.form
    subst hf
    have hbM : b ≠ M := fun e => hM (e ▸ hbf)
    have hb0 : b ∉ f0 := fun h => hbfn (by simp [h])
    have hb1 : b ∉ f1 := fun h => hbfn (by simp [h])
    have hb2 : b ∉ f2 := fun h => hbfn (by simp [h])
    have g0 : ∀ x ∈ f0, x ∈ fp := fun x hx => hff x (by simp [hx])
    have g1 : ∀ x ∈ f1, x ∈ fp := fun x hx => hff x (by simp [hx])
    have g2 : ∀ x ∈ f2, x ∈ fp := fun x hx => hff x (by simp [hx])
    have m0 : M ∉ f0 := fun h => hM (g0 M h)
    have m1 : M ∉ f1 := fun h => hM (g1 M h)
    have m2 : M ∉ f2 := fun h => hM (g2 M h)
    have c0 : cur[j * 5]? = some (.slice A0 phis.length p0) := by simpa [bkF] using hc 0 _ rfl
    have c1 : cur[j * 5 + 1]? = some (.slice A1 ins.length p1) := by simpa [bkF] using hc 1 _ rfl
    have c2 : cur[j * 5 + 2]? = some (.int .i64 jump) := by simpa [bkF] using hc 2 _ rfl
    have c3 : cur[j * 5 + 3]? = some (.int .i64 on) := by simpa [bkF] using hc 3 _ rfl
    have c4 : cur[j * 5 + 4]? = some (.slice A2 next.length p2) := by simpa [bkF] using hc 4 _ rfl
    have e0 : wr.cell? ⟨b, j * 5, none⟩ = some (.slice A0 phis.length p0) := (R.cell _).trans c0
    clear sl hc HL hx hk
    go_wp2_with fail
    refine (markF_PhiS phis A0 p0 M t _ f0 s0 n0 m0 ht0 (by rw [hP]; omega) hlp).mono ?_
    rintro e w3 ⟨rfl, s3, fr3⟩
    rw [hP]
    have R3 := fr3.row R hb0 hbM
    have e1 : w3.cell? ⟨b, j * 5 + 1, none⟩ = some (.slice A1 ins.length p1) := (R3.cell _).trans c1
    have s13 := fr3.sl s1 (fun x hx h => d01 x h hx) m1
    have s23 := fr3.sl s2 (fun x hx h => d02 x h hx) m2
    clear s0 s1 s2 e0
    go_wp2_with fail
    refine (markF_InsS ins A1 p1 M (t + (P : Nat)) _ f1 s13 n1 m1 (by omega) (by rw [hQ]; omega) hli).mono ?_
    rintro e w4 ⟨rfl, s4, fr4⟩
    rw [hQ]
    have R4 := fr4.row R3 hb1 hbM
    have s34 := fr4.sl s3 d01 m0
    have s24 := fr4.sl s23 (fun x hx h => d12 x h hx) m2
    clear s3 s13 s23 e1
    have e2 : w4.cell? ⟨b, j * 5 + 2, none⟩ = some (.int .i64 jump) := (R4.cell _).trans c2
    have ef2 := R4.frozen (j * 5 + 2)
    have R5 := R4.set_ (j * 5 + 2) (.int .i64 (t + (P : Nat) + (Q : Nat)))
    have e3 : (w4.setCell ⟨b, j * 5 + 2, none⟩ (.int .i64 (t + (P : Nat) + (Q : Nat)))).cell? ⟨b, j * 5 + 3, none⟩ = some (.int .i64 on) := (R5.cell _).trans ((cur_set_ne (by omega)).trans c3)
    have ef3 := R5.frozen (j * 5 + 3)
    have R6 := R5.set_ (j * 5 + 3) (.int .i64 (t + (P : Nat) + (Q : Nat) + 1))
    have e4 : ((w4.setCell ⟨b, j * 5 + 2, none⟩ (.int .i64 (t + (P : Nat) + (Q : Nat)))).setCell ⟨b, j * 5 + 3, none⟩ (.int .i64 (t + (P : Nat) + (Q : Nat) + 1))).cell? ⟨b, j * 5 + 4, none⟩ = some (.slice A2 next.length p2) := (R6.cell _).trans ((cur_set_ne (by omega)).trans ((cur_set_ne (by omega)).trans c4))
    have kh : ∀ x, x ≠ b → ((w4.setCell ⟨b, j * 5 + 2, none⟩ (.int .i64 (t + (P : Nat) + (Q : Nat)))).setCell ⟨b, j * 5 + 3, none⟩ (.int .i64 (t + (P : Nat) + (Q : Nat) + 1))).heap[x]? = w4.heap[x]? := fun x hx => (Below.heap_setCell _ _ _ x hx).trans (Below.heap_setCell _ _ _ x hx)
    have kb : Below 0 w4 ((w4.setCell ⟨b, j * 5 + 2, none⟩ (.int .i64 (t + (P : Nat) + (Q : Nat)))).setCell ⟨b, j * 5 + 3, none⟩ (.int .i64 (t + (P : Nat) + (Q : Nat) + 1))) := ((Below.refl 0 w4).setCell (p := ⟨b, j * 5 + 2, none⟩) (Nat.zero_le _) _).setCell (p := ⟨b, j * 5 + 3, none⟩) (Nat.zero_le _) _
    have s26 := s24.keep (w' := (w4.setCell ⟨b, j * 5 + 2, none⟩ (.int .i64 (t + (P : Nat) + (Q : Nat)))).setCell ⟨b, j * 5 + 3, none⟩ (.int .i64 (t + (P : Nat) + (Q : Nat) + 1))) (fun x hx => kh x (fun e => hb2 (e ▸ hx)))
    replace kh := Lib.hid kh
    clear R R3 R4 R5 s24
    go_wp2_with fail
    refine (markF_IntS next A2 p2 M (t + (P : Nat) + (Q : Nat) + 1 + 1) _ f2 s26 n2 m2 (by omega) (by omega)).mono ?_
    rintro e w7 ⟨rfl, s7, fr7⟩
    have R7 := fr7.row R6 hb2 hbM
    have s37 : SlF phF 69 w7 f0 (mkL cP mP phis t) (.slice A0 phis.length p0) := s34.keep (fun x hx => (fr7.2 x (fun h => d02 x hx h) (fun e => m0 (e ▸ hx))).trans (kh.out x (fun e => hb0 (e ▸ hx))))
    have s47 : SlF isF 72 w7 f1 (mkL cI mI ins (t + (P : Nat))) (.slice A1 ins.length p1) := s4.keep (fun x hx => (fr7.2 x (fun h => d12 x hx h) (fun e => m1 (e ▸ hx))).trans (kh.out x (fun e => hb1 (e ▸ hx))))
    have q1 : I64 (t + (P : Nat) + (Q : Nat)) := ⟨by omega, by omega⟩
    have q2 : I64 (t + (P : Nat) + (Q : Nat) + 1) := ⟨by omega, by omega⟩
    have sl8 := close w7 ⟨mkL cP mP phis t, mkL cI mI ins (t + (P : Nat)), t + (P : Nat) + (Q : Nat), t + (P : Nat) + (Q : Nat) + 1, marksL (t + (P : Nat) + (Q : Nat) + 1 + 1) next.length⟩ [.slice A0 phis.length p0, .slice A1 ins.length p1, .int .i64 (t + (P : Nat) + (Q : Nat)), .int .i64 (t + (P : Nat) + (Q : Nat) + 1), .slice A2 next.length p2] _ (fun x hx hxf hxb => by
      have hxM : x ≠ M := fun e => hM (e ▸ hx)
      exact (fr7.2 x (fun h => hxf (by simp [h])) hxM).trans ((kh.out x hxb).trans ((fr4.2 x (fun h => hxf (by simp [h])) hxM).trans (fr3.2 x (fun h => hxf (by simp [h])) hxM)))) R7 (by simp) (fun p hp => (cur_set_ne (by simp [bkF] at hp; omega)).trans (cur_set_ne (by simp [bkF] at hp; omega))) ⟨f0, f1, f2, _, _, _, rfl, rfl, q1, q2, s37, s47, s7⟩ (fun q u hq => by
      match q with
      | 0 =>
        simp at hq
        subst hq
        show ((cur.setIfInBounds (j * 5 + 2) _).setIfInBounds (j * 5 + 3) _)[j * 5 + 0]? = _
        rw [Nat.add_zero, cur_set_ne (by omega), cur_set_ne (by omega)]
        exact c0
      | 1 =>
        simp at hq
        subst hq
        show ((cur.setIfInBounds (j * 5 + 2) _).setIfInBounds (j * 5 + 3) _)[j * 5 + 1]? = _
        rw [cur_set_ne (by omega), cur_set_ne (by omega)]
        exact c1
      | 2 =>
        simp at hq
        subst hq
        show ((cur.setIfInBounds (j * 5 + 2) _).setIfInBounds (j * 5 + 3) _)[j * 5 + 2]? = _
        rw [cur_set_ne (by omega)]
        exact cur_set_eq c2
      | 3 =>
        simp at hq
        subst hq
        exact cur_set_eq ((cur_set_ne (by omega)).trans c3)
      | 4 =>
        simp at hq
        subst hq
        show ((cur.setIfInBounds (j * 5 + 2) _).setIfInBounds (j * 5 + 3) _)[j * 5 + 4]? = _
        rw [cur_set_ne (by omega), cur_set_ne (by omega)]
        exact c4
      | q + 5 => simp at hq)
    have fr8 : Fr fp M wr w7 := (fr3.more g0).trans ((fr4.more g1).trans (Fr.trans ⟨kb, fun x h1 h2 => kh.out x (fun e => h1 (e ▸ hbf))⟩ (fr7.more g2)))
    have E7 : (⟨mkL cP mP phis t, mkL cI mI ins (t + (P : Nat)), t + (P : Nat) + (Q : Nat), t + (P : Nat) + (Q : Nat) + 1, marksL (t + (P : Nat) + (Q : Nat) + 1 + 1) next.length⟩ : BlkD) = mB ⟨phis, ins, jump, on, next⟩ (k + (T : Nat)) := by
      rw [ht]
      unfold mB
      simp only [hP, hQ]
      rw [show t + (P : Int) + (Q : Int) + 1 + 1 = t + (P : Int) + (Q : Int) + 2 by omega]
    rw [E7, E.out] at sl8
    have ET : Hid (t + (P : Nat) + (Q : Nat) + 1 + 1 + (next.length : Nat) = k + (sumBy cB (l.take (j + 1)) : Nat)) := by
      show _ = _
      rw [HT.out, ← ht, show cB ⟨phis, ins, jump, on, next⟩ = sumBy cP phis + sumBy cI ins + 2 + next.length from rfl, hP, hQ]
      omega
    clear E7 E ht hT HT close c0 c1 c2 c3 c4 R6 R7 hP hQ hNx
    go_wp2_with fail
    go_roundw
    case rel => exact ⟨j + 1, by omega, by go_num, by rw [← ET.out], sl8, fr.trans fr8⟩
    case measure => simp [intOf]; omega
set_option maxRecDepth 100000 in
set_option maxHeartbeats 4000000 in
theorem markF_CodeS (l : List CodeD) (A : Option Addr) (cap M : Nat) (k : Int) (w : World) (fp : List Nat) (h : SlF cdF 39 w fp l (.slice A l.length cap)) (hnd : fp.Nodup) (hM : M ∉ fp) (k0 : 0 ≤ k) (hk : k + (sumBy cC l : Nat) ≤ 1073741824) (hl : l.length + sumBy codeN l ≤ 1048576) :
    Calls Try.prog 24 #[.slice A l.length cap, .int .i64 k] w (MkP cdF 39 (mkL cC mC l k) fp M A l.length cap (k + (sumBy cC l : Nat)) w) := by
  replace hnd := Lib.hid hnd
  go_enter Try.func24, Try.ntmps24
  go_wp2_with fail
  go_loopw [1, 5] (fun t i wr => ∃ j : Nat, j ≤ l.length ∧ i = .int .i64 j ∧ t = .int .i64 (k + (sumBy cC (l.take j) : Nat)) ∧ SlF cdF 39 wr fp (halfM cC mC l k j) (.slice A l.length cap) ∧ Fr fp M w wr) (fun _ i _ => l.length - (intOf i).toNat)
  case atStart => exact ⟨0, by omega, rfl, by simp [sumBy], by rw [halfM_zero]; exact h, Fr.refl _ _ _⟩
  case round =>
    clear h
    obtain ⟨j, hj, rfl, rfl, sl, fr⟩ := hrel
    by_cases hjl : j < l.length
    case neg =>
      obtain rfl : j = l.length := by omega
      rw [halfM_end] at sl
      have hjn : ¬ (l.length : Int) < (l.length : Int) := by omega
      have ET : sumBy cC (l.take l.length) = sumBy cC l := by rw [List.take_length]
      rw [ET]
      clear ET
      go_wp2_with fail
      go_ret
      exact ⟨rfl, sl, fr⟩
    obtain ⟨x, hx⟩ : ∃ x, l[j] = x := ⟨_, rfl⟩
    obtain ⟨T, hT⟩ : ∃ T, sumBy cC (l.take j) = T := ⟨_, rfl⟩
    have HT : Hid (sumBy cC (l.take (j + 1)) = T + cC x) := by
      show _ = _
      rw [sumBy_takeU hjl hx, hT]
    have HL : sumBy cC (l.take (j + 1)) ≤ sumBy cC l := sumBy_leU cC l (j + 1)
    rw [HT.out] at HL
    have E : Hid ((halfM cC mC l k j).set j (mC x (k + (T : Nat))) = halfM cC mC l k (j + 1)) := by
      have := halfM_set cC mC l k hjl hx
      rw [hT] at this
      exact this
    rw [hT]
    replace hT := Lib.hid hT
    have hjn : (j : Int) < (l.length : Int) := by omega
    have hji : (0 : Int) ≤ (j : Int) := by omega
    obtain ⟨t, ht⟩ : ∃ t : Int, k + (T : Int) = t := ⟨_, rfl⟩
    have ht0 : 0 ≤ t := by omega
    rw [ht]
    obtain ⟨⟨params, regs, blocks⟩, hxe⟩ : ∃ y, y = x := ⟨_, rfl⟩
    subst hxe
    have hNx : blocks.length + sumBy blkN blocks ≤ sumBy codeN l := sumBy_mem (a := (⟨params, regs, blocks⟩ : CodeD)) codeN (hx ▸ List.getElem_mem hjl)
    have hNb : blocks.length + sumBy blkN blocks ≤ 1048576 := by omega
    have HL' : (T : Int) + 2 + (sumBy cB blocks : Nat) ≤ (sumBy cC l : Int) := by
      have : T + (2 + sumBy cB blocks) ≤ sumBy cC l := HL
      omega
    obtain ⟨P, hP⟩ : ∃ P, sumBy cB blocks = P := ⟨_, rfl⟩
    rw [hP] at HL'
    have ht1 : t + 2 + (P : Int) ≤ 1073741824 := by omega
    obtain ⟨b, cur, g, cs, rfl, R, hbf, hgf, hbg, gn, ⟨va, rfl, _, _, sla⟩, hc, close⟩ := sl.look' hnd.out (halfM_get cC mC l k hjl hx)
    replace sla : SlF bkF 65 wr g blocks va := sla
    obtain ⟨A1, p1, hf, _, _⟩ := sla.form
    subst hf
    have hbM : b ≠ M := fun e => hM (e ▸ hbf)
    have hMg : M ∉ g := fun h => hM (hgf M h)
    have c0 : cur[j * 3]? = some (.int .i64 params) := by simpa [cdF] using hc 0 _ rfl
    have c1 : cur[j * 3 + 1]? = some (.int .i64 regs) := by simpa [cdF] using hc 1 _ rfl
    have c2 : cur[j * 3 + 2]? = some (.slice A1 blocks.length p1) := by simpa [cdF] using hc 2 _ rfl
    have e0 : wr.cell? ⟨b, j * 3, none⟩ = some (.int .i64 params) := (R.cell _).trans c0
    have ef0 := R.frozen (j * 3)
    have R1 := R.set_ (j * 3) (.int .i64 t)
    have e1 : (wr.setCell ⟨b, j * 3, none⟩ (.int .i64 t)).cell? ⟨b, j * 3 + 1, none⟩ = some (.int .i64 regs) := (R1.cell _).trans ((cur_set_ne (by omega)).trans c1)
    have ef1 := R1.frozen (j * 3 + 1)
    have R2 := R1.set_ (j * 3 + 1) (.int .i64 (t + 1))
    have e2 : ((wr.setCell ⟨b, j * 3, none⟩ (.int .i64 t)).setCell ⟨b, j * 3 + 1, none⟩ (.int .i64 (t + 1))).cell? ⟨b, j * 3 + 2, none⟩ = some (.slice A1 blocks.length p1) := (R2.cell _).trans ((cur_set_ne (by omega)).trans ((cur_set_ne (by omega)).trans c2))
    have kh : ∀ x, x ≠ b → ((wr.setCell ⟨b, j * 3, none⟩ (.int .i64 t)).setCell ⟨b, j * 3 + 1, none⟩ (.int .i64 (t + 1))).heap[x]? = wr.heap[x]? := fun x hx => (Below.heap_setCell _ _ _ x hx).trans (Below.heap_setCell _ _ _ x hx)
    have kb : Below 0 wr ((wr.setCell ⟨b, j * 3, none⟩ (.int .i64 t)).setCell ⟨b, j * 3 + 1, none⟩ (.int .i64 (t + 1))) := ((Below.refl 0 wr).setCell (p := ⟨b, j * 3, none⟩) (Nat.zero_le _) _).setCell (p := ⟨b, j * 3 + 1, none⟩) (Nat.zero_le _) _
    have sla2 := sla.keep (w' := (wr.setCell ⟨b, j * 3, none⟩ (.int .i64 t)).setCell ⟨b, j * 3 + 1, none⟩ (.int .i64 (t + 1))) (fun x hx => kh x (fun e => hbg (e ▸ hx)))
    replace kh := Lib.hid kh
    clear R R1 sl sla hc HL hx hk
    go_wp2_with fail
    refine (markF_BlockS blocks A1 p1 M (t + 1 + 1) _ g sla2 gn hMg (by omega) (by rw [hP]; omega) hNb).mono ?_
    rintro e w3 ⟨rfl, sl3, fr3⟩
    rw [hP]
    have R3 := fr3.row R2 hbg hbM
    have q0 : I64 t := ⟨by omega, by omega⟩
    have q1 : I64 (t + 1) := ⟨by omega, by omega⟩
    have sl7 := close w3 ⟨t, t + 1, mkL cB mB blocks (t + 1 + 1)⟩ [.int .i64 t, .int .i64 (t + 1), .slice A1 blocks.length p1] _ (fun x hx hxg hxb => (fr3.2 x hxg (fun e => hM (e ▸ hx))).trans (kh.out x hxb)) R3 (by simp) (fun p hp => (cur_set_ne (by simp [cdF] at hp; omega)).trans (cur_set_ne (by simp [cdF] at hp; omega))) ⟨_, rfl, q0, q1, sl3⟩ (fun q u hq => by
      match q with
      | 0 =>
        simp at hq
        subst hq
        show ((cur.setIfInBounds (j * 3) _).setIfInBounds (j * 3 + 1) _)[j * 3 + 0]? = _
        rw [Nat.add_zero, cur_set_ne (by omega)]
        exact cur_set_eq c0
      | 1 =>
        simp at hq
        subst hq
        exact cur_set_eq ((cur_set_ne (by omega)).trans c1)
      | 2 =>
        simp at hq
        subst hq
        show ((cur.setIfInBounds (j * 3) _).setIfInBounds (j * 3 + 1) _)[j * 3 + 2]? = _
        rw [cur_set_ne (by omega), cur_set_ne (by omega)]
        exact c2
      | q + 3 => simp at hq)
    have fr7 : Fr fp M wr w3 := Fr.trans ⟨kb, fun x h1 h2 => kh.out x (fun e => h1 (e ▸ hbf))⟩ (fr3.more hgf)
    have E7 : (⟨t, t + 1, mkL cB mB blocks (t + 1 + 1)⟩ : CodeD) = mC ⟨params, regs, blocks⟩ (k + (T : Nat)) := by
      rw [ht]
      unfold mC
      rw [show t + 1 + 1 = t + 2 by omega]
    rw [E7, E.out] at sl7
    have ET : Hid (t + 1 + 1 + (P : Nat) = k + (sumBy cC (l.take (j + 1)) : Nat)) := by
      show _ = _
      rw [HT.out, ← ht, show cC ⟨params, regs, blocks⟩ = 2 + sumBy cB blocks from rfl, hP]
      omega
    clear E7 E ht hT HT close c0 c1 c2 R2 R3 hP hNx
    go_wp2_with fail
    go_roundw
    case rel => exact ⟨j + 1, by omega, by go_num, by rw [← ET.out], sl7, fr.trans fr7⟩
    case measure => simp [intOf]; omega
theorem markF_Unit (l : List CodeD) (A : Option Addr) (cap M : Nat) (k : Int) (w : World) (fp : List Nat) (h : SlF cdF 39 w fp l (.slice A l.length cap)) (hnd : fp.Nodup) (hM : M ∉ fp) (hMw : w.heap.size < M) (k0 : 0 ≤ k) (hk : k + (sumBy cC l : Nat) ≤ 1073741824) (hl : l.length + sumBy codeN l ≤ 1048576) :
    Calls Try.prog 10 #[.agg #[.slice A l.length cap], .int .i64 k] w (fun e w' => e = .returned (.int .i64 (k + (sumBy cC l : Nat))) ∧ SlF cdF 39 w' fp (mkL cC mC l k) (.slice A l.length cap) ∧ Below 0 w w' ∧ ∀ x, x ∉ fp → x < w.heap.size → w'.heap[x]? = w.heap[x]?) := by
  have hb0 : Below w.heap.size w (w.alloc (.cells #[.slice A l.length cap] 28)) := (Below.refl _ _).alloc (Nat.le_refl _) _
  have h1 : SlF cdF 39 (w.alloc (.cells #[.slice A l.length cap] 28)) fp l (.slice A l.length cap) := h.keep fun b hb => hb0.block b (h.lt b hb)
  have R0 : Row (w.alloc (.cells #[.slice A l.length cap] 28)) w.heap.size 28 #[.slice A l.length cap] := Row.new _ _ _
  have e0 : (w.alloc (.cells #[.slice A l.length cap] 28)).cell? ⟨w.heap.size, 0, none⟩ = some (.slice A l.length cap) := R0.cell 0
  clear R0
  go_enter Try.func10, Try.ntmps10
  go_wp2_with fail
  refine (markF_CodeS l A cap M k _ fp h1 hnd hM k0 hk hl).mono ?_
  rintro e w3 ⟨rfl, s3, fr3⟩
  have F := Lib.hid (show SlF cdF 39 w3 fp (mkL cC mC l k) (.slice A l.length cap) ∧ Below 0 w w3 ∧ ∀ x, x ∉ fp → x < w.heap.size → w3.heap[x]? = w.heap[x]? from ⟨s3, (hb0.mono (Nat.zero_le _)).trans fr3.1, fun x hx hxl => (fr3.2 x hx (by omega)).trans (hb0.block x hxl)⟩)
  clear s3 fr3 h1 h hb0 e0
  go_wp2_with fail
  go_ret
  exact ⟨rfl, F.out⟩
end Go.Proofs.Ytgcjccoglcgcoaa
