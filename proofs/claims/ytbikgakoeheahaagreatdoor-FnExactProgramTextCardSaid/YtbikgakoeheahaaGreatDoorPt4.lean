/-
  The text of a program, by the program and by the reference. Conditions: the argument reads as data; for the program, the tables lie.
-/
import Derived.Test.YtbikgakoeheahaaGreatDoorPt2
import Derived.Test.YtbikgakoeheahaaGreatDoorPt3
import Derived.Test.YtbikgakoeheahaaGreatDoorPr3
import Derived.Test.YtbikgakoeheahaaGreatDoorJoin1
import Derived.Test.YtbikgakoeheahaaGreatDoorPlain
import Derived.Test.YtbikgakoeheahaaGreatDoorReg
import Derived.Deep.RegionHeld3
import Derived.Lib.SlFresh
namespace Go.Proofs.YtbikgakoeheahaaGreatDoor
open Go.RowKit Go.ChangeShapes Go.WideShapes Go.Deep
set_option linter.unusedVariables false
set_option linter.unusedSimpArgs false
theorem pmW_fst : ∀ (l : List ByteArray) (p : Nat × List WordD), (l.foldl pmW p).1 = p.1 + l.length
  | [], p => rfl
  | k :: r, p => by rw [List.foldl_cons, pmW_fst r]; simp only [pmW, List.length_cons]; omega
theorem paW_snoc {l : List ByteArray} {k : Nat} (hk : k < l.length) {s : ByteArray} (hs : l[k] = s) : paW (l.take (k + 1)) = (if 0 < k then paW (l.take k) ++ [⟨3, ⟨#[44]⟩⟩] else paW (l.take k)) ++ [⟨1, s⟩] := by
  have h1 : ((l.take k).foldl pmW (0, [])).1 = k := by rw [pmW_fst, List.length_take, Nat.min_eq_left (by omega), Nat.zero_add]
  unfold paW
  rw [List.take_succ_eq_append_getElem hk, List.foldl_append, hs]
  generalize (l.take k).foldl pmW (0, []) = q at h1 ⊢
  obtain ⟨q1, q2⟩ := q
  change q1 = k at h1
  subst h1
  rfl
/-- the words up to a function's parameters -/
def fhW (W : List WordD) (name : ByteArray) : List WordD := W ++ [⟨4, ⟨#[102, 110]⟩⟩, ⟨1, name⟩, ⟨3, ⟨#[40]⟩⟩]
theorem fhW_ne (W : List WordD) (name : ByteArray) : fhW W name ≠ [] := by unfold fhW; simp
theorem fh_text0 (name : ByteArray) : jT (fhW [] name) = (⟨#[102, 110, 32]⟩ ++ name) ++ ⟨#[32, 40]⟩ := by
  unfold fhW
  rw [List.nil_append, jT_cons (by simp), jT_cons (by simp), jT_one]
  exact ba_of (by simp)
theorem fh_text {W : List WordD} (h : W ≠ []) (name : ByteArray) : jT (fhW W name) = (((jT W ++ ⟨#[32]⟩) ++ ⟨#[102, 110, 32]⟩) ++ name) ++ ⟨#[32, 40]⟩ := by
  unfold fhW
  rw [jT_app h _ (by simp), jT_cons (by simp), jT_cons (by simp), jT_one]
  exact ba_of (by simp)
theorem pa_text0 {W : List WordD} (h : W ≠ []) {l : List ByteArray} {s : ByteArray} (hk : 0 < l.length) (hs : l[0] = s) : jT (W ++ paW (l.take (0 + 1))) = (jT (W ++ paW (l.take 0)) ++ ⟨#[32]⟩) ++ s := by
  rw [paW_snoc hk hs, if_neg (by omega), List.take_zero, show paW [] = [] from rfl, List.nil_append, List.append_nil, jT_snoc h]
theorem pa_text {W : List WordD} (h : W ≠ []) {l : List ByteArray} {k : Nat} {s : ByteArray} (hk : k < l.length) (hs : l[k] = s) (h0 : 0 < k) : jT (W ++ paW (l.take (k + 1))) = ((jT (W ++ paW (l.take k)) ++ ⟨#[32, 44]⟩) ++ ⟨#[32]⟩) ++ s := by
  rw [paW_snoc hk hs, if_pos h0, ← List.append_assoc, ← List.append_assoc, jT_snoc (by simp), jT_snoc (by simp [h])]
  exact ba_of (by simp)
theorem fn_text (W : List WordD) (name : ByteArray) (params : List ByteArray) (body : List St) : jT (W ++ fnW ⟨name, params, body⟩) = (jT (fhW W name ++ paW params) ++ ⟨#[32, 41, 32]⟩) ++ jT (blW body) := by
  have e : W ++ fnW ⟨name, params, body⟩ = ((fhW W name ++ paW params) ++ [⟨3, ⟨#[41]⟩⟩]) ++ blW body := by
    unfold fnW fhW
    simp only [List.append_assoc]
  rw [e, jT_app (by simp) _ (blW_ne _), jT_snoc (by simp [fhW_ne])]
  exact ba_of (by simp)
theorem prW_take_wv {fns : List FnD} (h : fns.all fnB = true) (k : Nat) : (prW (fns.take k)).all wv = true := prW_wv (all_take h k)
theorem cnP_take : ∀ (l : List FnD) (k : Nat), cnP (l.take k) ≤ cnP l
  | [], k => by rw [List.take_nil]; exact Nat.le_refl _
  | s :: r, 0 => by rw [List.take_zero]; exact Nat.zero_le _
  | s :: r, k + 1 => by
    have := cnP_take r k
    rw [List.take_succ_cons, cnP_cons, cnP_cons]
    omega
theorem prW_take_len {fns : List FnD} (h : fns.all fnB = true) (h4 : fns.length ≤ 4) (hc : cnP fns ≤ 40) (k : Nat) : (prW (fns.take k)).length ≤ 16048 := by
  have h1 := prW_len (all_take h k)
  have h2 := cnP_take fns k
  have h3 : (fns.take k).length ≤ 4 := by rw [List.length_take]; omega
  omega
theorem fh_bound {W : List WordD} {name : ByteArray} {params : List ByteArray} (hW : W.all wv = true) (hl : W.length ≤ 16048) (hn : isName name = true) (hp : params.all isName = true) (h3 : params.length ≤ 3) (k : Nat) : (jT (fhW W name ++ paW (params.take k))).size ≤ 80400 := by
  have h1 : (fhW W name ++ paW (params.take k)).all wv = true := by
    have hn' : wv ⟨1, name⟩ = true := hn
    unfold fhW
    rw [List.all_append, List.all_append, hW, paW_wv (all_take hp k), List.all_cons, List.all_cons, List.all_cons, sgn_wv.2.2.2.2.2.2.2, sgn_wv.2.2.2.2.1, hn']
    rfl
  have h2 := wv_text h1
  have h4 := paW_len (params.take k)
  have h5 : (params.take k).length ≤ 3 := by rw [List.length_take]; omega
  unfold fhW at h2 ⊢
  simp only [List.length_append, List.length_cons, List.length_nil] at h2
  omega
theorem pr_bound {fns : List FnD} (h : fns.all fnB = true) (h4 : fns.length ≤ 4) (hc : cnP fns ≤ 40) (k : Nat) : (jT (prW (fns.take k))).size ≤ 80240 := by
  have h1 := wv_text (prW_take_wv h k)
  have h2 := prW_take_len h h4 hc k
  omega
theorem name_size {s : ByteArray} (h : isName s = true) : s.size ≤ 4 := by
  simp only [isName, Bool.and_eq_true, decide_eq_true_eq] at h
  exact h.2.1
set_option maxRecDepth 100000 in
set_option maxHeartbeats 16000000 in
theorem spec_l3Text (d : Nat) (fns : List FnD) (v0 : Value) (w : World) (lo B : Nat) (hB : B ≤ w.heap.size) (hN : fns.length + sumBy fnN fns ≤ 1048576) (h0 : Sl false (fnS false d) w lo B fns v0) (hall : fns.all fnB = true) (h4 : fns.length ≤ 4) (hc : cnP fns ≤ 40) :
    Calls Tryz.prog 12 #[.agg #[v0]] w (RetV (.string (jT (prW fns))) w) := by
  obtain ⟨A, p, hf, hl1, hl2⟩ := h0.form
  subst hf
  have hb0 : Below w.heap.size w (w.alloc (.cells #[.slice A fns.length p] 30)) := (Below.refl _ _).alloc (Nat.le_refl _) _
  have R0 : Row (w.alloc (.cells #[.slice A fns.length p] 30)) w.heap.size 30 #[.slice A fns.length p] := Row.new w _ _
  have HA := Lib.hid hall
  have H4 := Lib.hid h4
  have HC := Lib.hid hc
  have HS : Hid (∀ k, (jT (prW (fns.take k))).size ≤ 80240) := fun k => pr_bound hall h4 hc k
  clear hall hc
  go_enter Tryz.func12, Tryz.ntmps12
  go_wp2_with fail
  go_loopw [3, 4] (fun u i wr => ∃ (k : Nat) (o_ : ByteArray), k ≤ fns.length ∧ u = .string o_ ∧ i = .int .i64 k ∧ Hid (jT (prW (fns.take k)) = o_) ∧ Row wr w.heap.size 30 #[.slice A fns.length p] ∧ Below w.heap.size w wr) (fun _ i _ => fns.length - (intOf i).toNat)
  case atStart => exact ⟨0, _, by omega, rfl, rfl, (by show _ = _; rw [List.take_zero]; rfl), R0, hb0⟩
  case round =>
    obtain ⟨k, o_, hk, rfl, rfl, HO, R, hb⟩ := hrel
    obtain ⟨wo, hwo⟩ : ∃ x, x = wr := ⟨_, rfl⟩
    subst hwo
    have hsz := hb.size
    have hos : o_.size ≤ 80240 := HO.out ▸ HS.out k
    have y0 : wo.cell? ⟨w.heap.size, 0, none⟩ = some (.slice A fns.length p) := R.cell 0
    by_cases hkl : k < fns.length
    · obtain ⟨b, o, name, params, v1, body, v2, rfl, _, hbB, HL, g0, g1, g2, c0, c1, c2⟩ := fn_get d (h0.below hb hB) hkl
      obtain ⟨A1, p1, hf, _, _⟩ := g1.form
      change _ = Value.slice A1 params.length p1 at hf
      subst hf
      obtain ⟨A2, p2, hf, _, _⟩ := g2.form
      change _ = Value.slice A2 body.length p2 at hf
      subst hf
      have hkn : (k : Int) < (fns.length : Int) := by omega
      have hki : (0 : Int) ≤ (k : Int) := by omega
      obtain ⟨hpn, hnm, hp3, hbo⟩ := fn_in (List.all_eq_true.1 HA.out _ (HL.out ▸ List.getElem_mem hkl : FnD.mk name params body ∈ fns))
      change params.all isName = true at hpn
      change isName name = true at hnm
      change params.length ≤ 3 at hp3
      change body.all (stB 4) = true at hbo
      have hcb : cnL body ≤ 40 := Nat.le_trans (cnP_mem (f := ⟨name, params, body⟩) (HL.out ▸ List.getElem_mem hkl)) HC.out
      have hns := name_size hnm
      obtain ⟨W, hW⟩ : ∃ W, prW (fns.take k) = W := ⟨_, rfl⟩
      have hWv := prW_take_wv HA.out k
      have hWl := prW_take_len HA.out H4.out HC.out k
      rw [hW] at hWv hWl
      have HFB : Hid (∀ j, (jT (fhW W name ++ paW (params.take j))).size ≤ 80400) := fun j => fh_bound hWv hWl hnm hpn hp3 j
      have HSN : Hid (prW (fns.take (k + 1)) = W ++ fnW ⟨name, params, body⟩) := by show _ = _; rw [prW_snoc hkl HL.out, hW]
      have HPN := Lib.hid hpn
      have HBO := Lib.hid hbo
      have HCB := Lib.hid hcb
      have HP3 := Lib.hid hp3
      clear hpn hbo hcb hWv hWl hp3 hnm
      obtain ⟨tb, htb⟩ : ∃ t, jT (blW body) = t := ⟨_, rfl⟩
      have hsb : tb.size ≤ 90000 := htb ▸ bl_bound HBO.out HCB.out
      have HTB := Lib.hid htb
      clear htb
      have hbf : Below wo.heap.size wo (wo.alloc (.cells #[.string name, .slice A1 params.length p1, .slice A2 body.length p2] 43)) := (Below.refl _ _).alloc (Nat.le_refl _) _
      have RF : Row (wo.alloc (.cells #[.string name, .slice A1 params.length p1, .slice A2 body.length p2] 43)) wo.heap.size 43 #[.string name, .slice A1 params.length p1, .slice A2 body.length p2] := Row.new wo _ _
      have hb2 : Below w.heap.size w (wo.alloc (.cells #[.string name, .slice A1 params.length p1, .slice A2 body.length p2] 43)) := hb.trans (hbf.mono hsz)
      have RP2 := R.below hbf R.lt
      rw [hW] at HO
      by_cases hk0 : 0 < k
      · have hk0' : (0 : Int) < (k : Int) := by omega
        have zs1 : (⟨#[32]⟩ : ByteArray).size = 1 := rfl
        have zs2 : ((o_ ++ ⟨#[32]⟩) : ByteArray).size = o_.size + 1 := by rw [ByteArray.size_append, zs1]
        have zs3 : (⟨#[102, 110, 32]⟩ : ByteArray).size = 3 := rfl
        have zs4 : (((o_ ++ ⟨#[32]⟩) ++ ⟨#[102, 110, 32]⟩) : ByteArray).size = o_.size + 1 + 3 := by rw [ByteArray.size_append, zs2, zs3]
        have zs5 : ((((o_ ++ ⟨#[32]⟩) ++ ⟨#[102, 110, 32]⟩) ++ name) : ByteArray).size = o_.size + 1 + 3 + name.size := by rw [ByteArray.size_append, zs4]
        have zs6 : (⟨#[32, 40]⟩ : ByteArray).size = 2 := rfl
        have zs7 : (((((o_ ++ ⟨#[32]⟩) ++ ⟨#[102, 110, 32]⟩) ++ name) ++ ⟨#[32, 40]⟩) : ByteArray).size = o_.size + 1 + 3 + name.size + 2 := by rw [ByteArray.size_append, zs5, zs6]
        have hWn : W ≠ [] := by rw [← hW]; intro h; have h1 := congrArg List.length h; rw [show k = (k - 1) + 1 by omega, prW_snoc (show k - 1 < fns.length by omega) rfl, List.length_append] at h1; exact absurd (List.eq_nil_of_length_eq_zero (by simpa using (Nat.eq_zero_of_add_eq_zero_left h1))) (fnW_ne _)
        have HU : Hid (jT (fhW W name) = ((((o_ ++ ⟨#[32]⟩) ++ ⟨#[102, 110, 32]⟩) ++ name) ++ ⟨#[32, 40]⟩)) := by show _ = _; rw [fh_text hWn, HO.out]
        go_wp2_with fail
        go_loopw [3, 6] (fun u i wr => ∃ (j : Nat) (s : ByteArray), j ≤ params.length ∧ u = .string s ∧ i = .int .i64 j ∧ Hid (jT (fhW W name ++ paW (params.take j)) = s) ∧ Row wr wo.heap.size 43 #[.string name, .slice A1 params.length p1, .slice A2 body.length p2] ∧ Row wr w.heap.size 30 #[.slice (some ⟨b, o, none⟩) fns.length p] ∧ Below wo.heap.size wo wr) (fun _ i _ => params.length - (intOf i).toNat)
        case atStart => exact ⟨0, _, by omega, rfl, rfl, (by show _ = _; rw [List.take_zero, show paW [] = [] from rfl, List.append_nil]; exact HU.out), RF, RP2, hbf⟩
        case round =>
          obtain ⟨j, s, hj, rfl, rfl, HS, Rq, RPq, hbq⟩ := hrel
          have hszq := hbq.size
          have hss : s.size ≤ 80400 := HS.out ▸ HFB.out j
          have q0 : wr.cell? ⟨wo.heap.size, 0, none⟩ = some (.string name) := Rq.cell 0
          have q1 : wr.cell? ⟨wo.heap.size, 1, none⟩ = some (.slice A1 params.length p1) := Rq.cell 1
          have q2 : wr.cell? ⟨wo.heap.size, 2, none⟩ = some (.slice A2 body.length p2) := Rq.cell 2
          by_cases hjl : j < params.length
          · obtain ⟨bx, ox, a, hAx, _, hbBx, HLx, ga, cx⟩ := str_get (g1.below hbq (Nat.le_trans hB hsz)) hjl
            subst hAx
            have hjn : (j : Int) < (params.length : Int) := by omega
            have hji : (0 : Int) ≤ (j : Int) := by omega
            have has : a.size ≤ 4 := name_size (List.all_eq_true.1 HPN.out _ (HLx.out ▸ List.getElem_mem hjl : a ∈ params))
            by_cases hj0 : 0 < j
            · have hj0' : (0 : Int) < (j : Int) := by omega
              have zs12 : (⟨#[32, 44]⟩ : ByteArray).size = 2 := rfl
              have zs13 : ((s ++ ⟨#[32, 44]⟩) : ByteArray).size = s.size + 2 := by rw [ByteArray.size_append, zs12]
              have zs14 : (⟨#[32]⟩ : ByteArray).size = 1 := rfl
              have zs15 : (((s ++ ⟨#[32, 44]⟩) ++ ⟨#[32]⟩) : ByteArray).size = s.size + 2 + 1 := by rw [ByteArray.size_append, zs13, zs14]
              have zs16 : ((((s ++ ⟨#[32, 44]⟩) ++ ⟨#[32]⟩) ++ a) : ByteArray).size = s.size + 2 + 1 + a.size := by rw [ByteArray.size_append, zs15]
              have HN : Hid (jT (fhW W name ++ paW (params.take (j + 1))) = (((s ++ ⟨#[32, 44]⟩) ++ ⟨#[32]⟩) ++ a)) := by show _ = _; rw [pa_text (fhW_ne _ _) hjl HLx.out hj0, HS.out]
              clear HS
              go_wp2_with fail
              go_roundw
              case rel => exact ⟨j + 1, _, by omega, rfl, by go_num, HN, Rq, RPq, hbq⟩
              case measure => simp [intOf]; omega
            · have hj0' : decide ((0 : Int) < (j : Int)) = false := decide_eq_false (by omega)
              have zs17 : (⟨#[32]⟩ : ByteArray).size = 1 := rfl
              have zs18 : ((s ++ ⟨#[32]⟩) : ByteArray).size = s.size + 1 := by rw [ByteArray.size_append, zs17]
              have zs19 : (((s ++ ⟨#[32]⟩) ++ a) : ByteArray).size = s.size + 1 + a.size := by rw [ByteArray.size_append, zs18]
              have HN : Hid (jT (fhW W name ++ paW (params.take (j + 1))) = ((s ++ ⟨#[32]⟩) ++ a)) := by
                have h1 := HS.out
                have h2 := HLx.out
                obtain rfl : j = 0 := by omega
                show _ = _
                rw [pa_text0 (fhW_ne _ _) hjl h2, h1]
              clear HS
              go_wp2_with fail
              go_roundw
              case rel => exact ⟨j + 1, _, by omega, rfl, by go_num, HN, Rq, RPq, hbq⟩
              case measure => simp [intOf]; omega
          · obtain rfl : j = params.length := by omega
            have zs20 : (⟨#[32, 41, 32]⟩ : ByteArray).size = 3 := rfl
            have zs21 : ((s ++ ⟨#[32, 41, 32]⟩) : ByteArray).size = s.size + 3 := by rw [ByteArray.size_append, zs20]
            have zs22 : (((s ++ ⟨#[32, 41, 32]⟩) ++ tb) : ByteArray).size = s.size + 3 + tb.size := by rw [ByteArray.size_append, zs21]
            have HN : Hid (jT (prW (fns.take (k + 1))) = ((s ++ ⟨#[32, 41, 32]⟩) ++ tb)) := by show _ = _; rw [HSN.out, fn_text, HTB.out]; have h1 := HS.out; rw [List.take_length] at h1; rw [h1]
            clear HS
            have hbw : Below w.heap.size w wr := hb.trans (hbq.mono hsz)
            go_wp2_with fail
            refine (spec_l3Block 4 d body (.slice A2 body.length p2) _ lo B (Nat.le_trans hB hbw.size) (g2.below hbq (Nat.le_trans hB hsz)) HBO.out HCB.out).mono ?_
            rw [HTB.out]
            rintro e w5 ⟨rfl, x5⟩
            go_wp2_with fail
            go_roundw
            case rel => exact ⟨k + 1, _, by omega, rfl, by go_num, HN, RPq.below x5 RPq.lt, hbw.trans (x5.mono hbw.size)⟩
            case measure => simp [intOf]; omega
      · have hk0' : decide ((0 : Int) < (k : Int)) = false := decide_eq_false (by omega)
        have hW0 : W = [] := by rw [← hW, show k = 0 by omega]; rfl
        have HU : Hid (jT (fhW W name) = ((⟨#[102, 110, 32]⟩ ++ name) ++ ⟨#[32, 40]⟩)) := by show _ = _; rw [hW0]; exact fh_text0 name
        rw [hW0] at HO
        clear hW0
        obtain rfl : o_ = ⟨#[]⟩ := by rw [← HO.out]; rfl
        have zs8 : (⟨#[102, 110, 32]⟩ : ByteArray).size = 3 := rfl
        have zs9 : ((⟨#[102, 110, 32]⟩ ++ name) : ByteArray).size = 3 + name.size := by rw [ByteArray.size_append, zs8]
        have zs10 : (⟨#[32, 40]⟩ : ByteArray).size = 2 := rfl
        have zs11 : (((⟨#[102, 110, 32]⟩ ++ name) ++ ⟨#[32, 40]⟩) : ByteArray).size = 3 + name.size + 2 := by rw [ByteArray.size_append, zs9, zs10]
        have hem : (⟨#[]⟩ : ByteArray) ++ ⟨#[102, 110, 32]⟩ = ⟨#[102, 110, 32]⟩ := ba_of (by simp)
        go_wp2_with fail
        go_loopw [3, 6] (fun u i wr => ∃ (j : Nat) (s : ByteArray), j ≤ params.length ∧ u = .string s ∧ i = .int .i64 j ∧ Hid (jT (fhW W name ++ paW (params.take j)) = s) ∧ Row wr wo.heap.size 43 #[.string name, .slice A1 params.length p1, .slice A2 body.length p2] ∧ Row wr w.heap.size 30 #[.slice (some ⟨b, o, none⟩) fns.length p] ∧ Below wo.heap.size wo wr) (fun _ i _ => params.length - (intOf i).toNat)
        case atStart => exact ⟨0, _, by omega, rfl, rfl, (by show _ = _; rw [List.take_zero, show paW [] = [] from rfl, List.append_nil]; exact HU.out), RF, RP2, hbf⟩
        case round =>
          obtain ⟨j, s, hj, rfl, rfl, HS, Rq, RPq, hbq⟩ := hrel
          have hszq := hbq.size
          have hss : s.size ≤ 80400 := HS.out ▸ HFB.out j
          have q0 : wr.cell? ⟨wo.heap.size, 0, none⟩ = some (.string name) := Rq.cell 0
          have q1 : wr.cell? ⟨wo.heap.size, 1, none⟩ = some (.slice A1 params.length p1) := Rq.cell 1
          have q2 : wr.cell? ⟨wo.heap.size, 2, none⟩ = some (.slice A2 body.length p2) := Rq.cell 2
          by_cases hjl : j < params.length
          · obtain ⟨bx, ox, a, hAx, _, hbBx, HLx, ga, cx⟩ := str_get (g1.below hbq (Nat.le_trans hB hsz)) hjl
            subst hAx
            have hjn : (j : Int) < (params.length : Int) := by omega
            have hji : (0 : Int) ≤ (j : Int) := by omega
            have has : a.size ≤ 4 := name_size (List.all_eq_true.1 HPN.out _ (HLx.out ▸ List.getElem_mem hjl : a ∈ params))
            by_cases hj0 : 0 < j
            · have hj0' : (0 : Int) < (j : Int) := by omega
              have zs23 : (⟨#[32, 44]⟩ : ByteArray).size = 2 := rfl
              have zs24 : ((s ++ ⟨#[32, 44]⟩) : ByteArray).size = s.size + 2 := by rw [ByteArray.size_append, zs23]
              have zs25 : (⟨#[32]⟩ : ByteArray).size = 1 := rfl
              have zs26 : (((s ++ ⟨#[32, 44]⟩) ++ ⟨#[32]⟩) : ByteArray).size = s.size + 2 + 1 := by rw [ByteArray.size_append, zs24, zs25]
              have zs27 : ((((s ++ ⟨#[32, 44]⟩) ++ ⟨#[32]⟩) ++ a) : ByteArray).size = s.size + 2 + 1 + a.size := by rw [ByteArray.size_append, zs26]
              have HN : Hid (jT (fhW W name ++ paW (params.take (j + 1))) = (((s ++ ⟨#[32, 44]⟩) ++ ⟨#[32]⟩) ++ a)) := by show _ = _; rw [pa_text (fhW_ne _ _) hjl HLx.out hj0, HS.out]
              clear HS
              go_wp2_with fail
              go_roundw
              case rel => exact ⟨j + 1, _, by omega, rfl, by go_num, HN, Rq, RPq, hbq⟩
              case measure => simp [intOf]; omega
            · have hj0' : decide ((0 : Int) < (j : Int)) = false := decide_eq_false (by omega)
              have zs28 : (⟨#[32]⟩ : ByteArray).size = 1 := rfl
              have zs29 : ((s ++ ⟨#[32]⟩) : ByteArray).size = s.size + 1 := by rw [ByteArray.size_append, zs28]
              have zs30 : (((s ++ ⟨#[32]⟩) ++ a) : ByteArray).size = s.size + 1 + a.size := by rw [ByteArray.size_append, zs29]
              have HN : Hid (jT (fhW W name ++ paW (params.take (j + 1))) = ((s ++ ⟨#[32]⟩) ++ a)) := by
                have h1 := HS.out
                have h2 := HLx.out
                obtain rfl : j = 0 := by omega
                show _ = _
                rw [pa_text0 (fhW_ne _ _) hjl h2, h1]
              clear HS
              go_wp2_with fail
              go_roundw
              case rel => exact ⟨j + 1, _, by omega, rfl, by go_num, HN, Rq, RPq, hbq⟩
              case measure => simp [intOf]; omega
          · obtain rfl : j = params.length := by omega
            have zs31 : (⟨#[32, 41, 32]⟩ : ByteArray).size = 3 := rfl
            have zs32 : ((s ++ ⟨#[32, 41, 32]⟩) : ByteArray).size = s.size + 3 := by rw [ByteArray.size_append, zs31]
            have zs33 : (((s ++ ⟨#[32, 41, 32]⟩) ++ tb) : ByteArray).size = s.size + 3 + tb.size := by rw [ByteArray.size_append, zs32]
            have HN : Hid (jT (prW (fns.take (k + 1))) = ((s ++ ⟨#[32, 41, 32]⟩) ++ tb)) := by show _ = _; rw [HSN.out, fn_text, HTB.out]; have h1 := HS.out; rw [List.take_length] at h1; rw [h1]
            clear HS
            have hbw : Below w.heap.size w wr := hb.trans (hbq.mono hsz)
            go_wp2_with fail
            refine (spec_l3Block 4 d body (.slice A2 body.length p2) _ lo B (Nat.le_trans hB hbw.size) (g2.below hbq (Nat.le_trans hB hsz)) HBO.out HCB.out).mono ?_
            rw [HTB.out]
            rintro e w5 ⟨rfl, x5⟩
            go_wp2_with fail
            go_roundw
            case rel => exact ⟨k + 1, _, by omega, rfl, by go_num, HN, RPq.below x5 RPq.lt, hbw.trans (x5.mono hbw.size)⟩
            case measure => simp [intOf]; omega
    · have E : Hid (jT (prW fns) = o_) := by have h1 := HO.out; rw [List.take_of_length_le (by omega)] at h1; exact h1
      clear HO
      go_wp2_with fail
      go_ret
      exact RetV.mk (by rw [E.out] <;> rfl) rfl hb
set_option maxRecDepth 100000 in
set_option maxHeartbeats 4000000 in
theorem spec_ProgramText (d : Nat) (fns : List FnD) (v0 : Value) (w : World) (lo B : Nat) (hB : B ≤ w.heap.size) (hN : fns.length + sumBy fnN fns ≤ 1048576) (h0 : Sl false (fnS false d) w lo B fns v0) : Calls Tryz.prog 5 #[.agg #[v0]] w (RetV (ptV fns) w) := by
  obtain ⟨A, p, hf, hl1, hl2⟩ := h0.form
  subst hf
  have hb0 : Below w.heap.size w (w.alloc (.cells #[.slice A fns.length p] 30)) := (Below.refl _ _).alloc (Nat.le_refl _) _
  have R0 : Row (w.alloc (.cells #[.slice A fns.length p] 30)) w.heap.size 30 #[.slice A fns.length p] := Row.new w _ _
  go_enter Tryz.func5, Tryz.ntmps5
  go_wp2_with fail
  refine (spec_ProgramValid d fns _ _ lo B (Nat.le_trans hB hb0.size) hN (h0.below hb0 hB)).mono ?_
  rintro e w1 ⟨rfl, b1⟩
  have hb1 : Below w.heap.size w w1 := hb0.trans (b1.mono hb0.size)
  have R1 := R0.below b1 R0.lt
  have y1 : w1.cell? ⟨w.heap.size, 0, none⟩ = some (.slice A fns.length p) := R1.cell 0
  cases hv : prB ⟨fns⟩
  case false =>
    have E : Hid (ptV fns = .tuple #[.string ⟨#[]⟩, .bool false]) := if_neg (by rw [hv]; decide)
    go_wp2_with fail
    go_ret2
    exact RetV.mk (by rw [E.out] <;> rfl) rfl hb1
  obtain ⟨⟨_, hl4⟩, hall, hc⟩ := pr_in hv
  have E : Hid (ptV fns = pV (jT (prW fns))) := by show _ = _; rw [plain_words (prW_wv hall)]; exact if_pos hv
  have hsz : (jT (prW fns)).size ≤ 80240 := by have := pr_bound hall hl4 hc fns.length; rwa [List.take_length] at this
  go_wp2_with fail
  refine (spec_l3Text d fns _ _ lo B (Nat.le_trans hB hb1.size) hN (h0.below hb1 hB) hall hl4 hc).mono ?_
  rintro e w3 ⟨rfl, x3⟩
  have hb3 : Below w.heap.size w w3 := hb1.trans (x3.mono hb1.size)
  go_wp2_with fail
  refine (spec_PlainText _ _ (Nat.le_trans hsz (by decide))).mono ?_
  rintro e w4 ⟨rfl, x4⟩
  have hb4 : Below w.heap.size w w4 := hb3.trans (x4.mono hb3.size)
  have HV : Hid (pV (jT (prW fns)) = .tuple #[.string (pS (jT (prW fns))), .bool (pOk (jT (prW fns)))]) := rfl
  rw [HV.out]
  go_wp2_with fail
  go_ret2
  exact RetV.mk (by rw [E.out] <;> rfl) rfl hb4
set_option maxRecDepth 100000 in
set_option maxHeartbeats 16000000 in
theorem impl_ProgramText (d : Nat) (fns : List FnD) (v0 : Value) (w : World) (lo B : Nat) (hB : B ≤ w.heap.size) (hN : fns.length + sumBy fnN fns ≤ 1048576) (h0 : Sl false (fnS false d) w lo B fns v0) (ht : TabX w) : Calls Tryz.prog 7 #[.agg #[v0]] w (RetV (ptV fns) w) := by
  obtain ⟨A, p, hf, hl1, hl2⟩ := h0.form
  subst hf
  have hb0 : Below w.heap.size w (w.alloc (.cells #[.slice A fns.length p] 30)) := (Below.refl _ _).alloc (Nat.le_refl _) _
  have R0 : Row (w.alloc (.cells #[.slice A fns.length p] 30)) w.heap.size 30 #[.slice A fns.length p] := Row.new w _ _
  go_enter Tryz.func7, Tryz.ntmps7
  go_wp2_with fail
  refine (impl_ProgramValid d fns _ _ lo B (Nat.le_trans hB hb0.size) hN (h0.below hb0 hB) (ht.1.below hb0 (Nat.le_refl _))).mono ?_
  rintro e w1 ⟨rfl, b1⟩
  have hb1 : Below w.heap.size w w1 := hb0.trans (b1.mono hb0.size)
  have R1 := R0.below b1 R0.lt
  have y1 : w1.cell? ⟨w.heap.size, 0, none⟩ = some (.slice A fns.length p) := R1.cell 0
  cases hv : prB ⟨fns⟩
  case false =>
    have E : Hid (ptV fns = .tuple #[.string ⟨#[]⟩, .bool false]) := if_neg (by rw [hv]; decide)
    go_wp2_with fail
    go_ret2
    exact RetV.mk (by rw [E.out] <;> rfl) rfl hb1
  obtain ⟨⟨_, hl4⟩, hall, hc⟩ := pr_in hv
  have E : Hid (ptV fns = jV (prW fns)) := if_pos hv
  have HA := Lib.hid hall
  have H4 := Lib.hid hl4
  have HC := Lib.hid hc
  have HTX : Hid (∀ w9, Below w.heap.size w w9 → TabX w9) := fun w9 b9 => ht.below b9 (Nat.le_refl _)
  have hwlen : (prW fns).length ≤ 16048 := by have := prW_take_len hall hl4 hc fns.length; rwa [List.take_length] at this
  have hbulk := wv_bulk (prW_wv hall)
  have HSH := Lib.hid (wv_short (prW_wv hall))
  have HBK : Hid ((prW fns).length + sumBy wordN (prW fns) ≤ 1048576) := by show _ ≤ _; omega
  clear hall hc hl4 hv hwlen hbulk ht
  go_wp2_with fail
  go_loopw [4, 15] (fun vv i wr => ∃ (k : Nat) (acc : List WordD), k ≤ fns.length ∧ i = .int .i64 k ∧ Hid (prW (fns.take k) = acc) ∧ OwnW wr w.heap.size vv acc ∧ OwnG (.slice none 0 0) vv w1 wr) (fun _ i _ => fns.length - (intOf i).toNat)
  case atStart => exact ⟨0, [], by omega, rfl, (by show _ = _; rw [List.take_zero]; rfl), ⟨rfl, Or.inl ⟨rfl, rfl⟩⟩, OwnG.refl _ _⟩
  case round =>
    obtain ⟨k, acc, hk, rfl, HK, own, G⟩ := hrel
    obtain ⟨wo, hwo⟩ : ∃ x, x = wr := ⟨_, rfl⟩
    subst hwo
    have hb : Below w.heap.size w wo := hb1.trans (G.below hb1.size (fun k hk => by cases hk))
    have hsz := hb.size
    obtain ⟨Au, nu_, cu, hu⟩ := OwnW.formN own
    subst hu
    by_cases hkl : k < fns.length
    · obtain ⟨b, o, name, params, v1, body, v2, rfl, _, hbB, HL, g0, g1, g2, c0, c1, c2⟩ := fn_get d (h0.below hb hB) hkl
      obtain ⟨A1, p1, hf, _, _⟩ := g1.form
      change _ = Value.slice A1 params.length p1 at hf
      subst hf
      obtain ⟨A2, p2, hf, _, _⟩ := g2.form
      change _ = Value.slice A2 body.length p2 at hf
      subst hf
      have hkn : (k : Int) < (fns.length : Int) := by omega
      have hki : (0 : Int) ≤ (k : Int) := by omega
      obtain ⟨hpn, hnm, hp3, hbo⟩ := fn_in (List.all_eq_true.1 HA.out _ (HL.out ▸ List.getElem_mem hkl : FnD.mk name params body ∈ fns))
      change params.all isName = true at hpn
      change isName name = true at hnm
      change params.length ≤ 3 at hp3
      change body.all (stB 4) = true at hbo
      have hcb : cnL body ≤ 40 := Nat.le_trans (cnP_mem (f := ⟨name, params, body⟩) (HL.out ▸ List.getElem_mem hkl)) HC.out
      have HSN : Hid (prW (fns.take (k + 1)) = acc ++ fnW ⟨name, params, body⟩) := by show _ = _; rw [prW_snoc hkl HL.out, HK.out]
      have hlen1 := prW_take_len HA.out H4.out HC.out (k + 1)
      rw [HSN.out] at hlen1
      unfold fnW at hlen1
      simp only [blW_len, List.length_append, List.length_cons, List.length_nil] at hlen1
      have HBO := Lib.hid hbo
      have HCB := Lib.hid hcb
      clear hpn hbo hcb hnm HK
      have hbf : Below wo.heap.size wo (wo.alloc (.cells #[.string name, .slice A1 params.length p1, .slice A2 body.length p2] 43)) := (Below.refl _ _).alloc (Nat.le_refl _) _
      have RF : Row (wo.alloc (.cells #[.string name, .slice A1 params.length p1, .slice A2 body.length p2] 43)) wo.heap.size 43 #[.string name, .slice A1 params.length p1, .slice A2 body.length p2] := Row.new wo _ _
      have owf := OwnW.below own hbf (Nat.le_refl _)
      have hnf := own_ne' own (Nat.le_refl _)
      have hgf : ∀ x, Value.ownBlock (.slice Au nu_ cu) = some x → w.heap.size ≤ x := fun x hx => own_ge own hx
      have bdd : Below (wo.alloc (.cells #[.string name, .slice A1 params.length p1, .slice A2 body.length p2] 43)).heap.size (wo.alloc (.cells #[.string name, .slice A1 params.length p1, .slice A2 body.length p2] 43)) (wo.alloc (.cells #[.string name, .slice A1 params.length p1, .slice A2 body.length p2] 43)).drew := (Below.refl _ _).drew
      have RKd : Row (wo.alloc (.cells #[.string name, .slice A1 params.length p1, .slice A2 body.length p2] 43)).drew wo.heap.size 43 #[.string name, .slice A1 params.length p1, .slice A2 body.length p2] := RF
      have owd := OwnW.below owf bdd (Nat.le_refl _)
      have gd : OwnG (.slice Au nu_ cu) (.slice Au nu_ cu) (wo.alloc (.cells #[.string name, .slice A1 params.length p1, .slice A2 body.length p2] 43)) (wo.alloc (.cells #[.string name, .slice A1 params.length p1, .slice A2 body.length p2] 43)).drew := OwnG.of_below bdd
      go_wp2_with fail
      refine wp_region_held_drew (S := fun w' => w'.cell? ⟨wo.heap.size, 0, none⟩ = some (.string name)) (by kernel_rfl) ?_ (fun hHeld => ?_)
      · exact RKd.cell 0
      generalize (wo.alloc (.cells #[.string name, .slice A1 params.length p1, .slice A2 body.length p2] 43)).drew = wd at hHeld RKd owd gd bdd ⊢
      refine reg_take (i := 0) (v := ?v1) rfl (by kernel_rfl) (by kernel_rfl) (by kernel_rfl) (fun _ _ _ h => h) (Or.inl ⟨by kernel_rfl, ?h1⟩) (by assumption) ?r1
      case h1 => (intro w hSw; (try dsimp only at hSw); go_simp; try with_reducible rfl)
      try simp only [Act.put, List.setIfInBounds_toArray, List.set_cons_zero, List.set_cons_succ]
      refine reg_take (i := 2) (v := ?v2) rfl (by kernel_rfl) (by kernel_rfl) (by kernel_rfl) (fun _ _ _ h => h) (Or.inl ⟨by kernel_rfl, ?h2⟩) (by assumption) ?r2
      case h2 => (intro w hSw; (try dsimp only at hSw); go_simp; try with_reducible rfl)
      try simp only [Act.put, List.setIfInBounds_toArray, List.set_cons_zero, List.set_cons_succ]
      refine reg_take (i := 3) (v := ?v3) rfl (by kernel_rfl) (by kernel_rfl) (by kernel_rfl) (fun _ _ _ h => h) (Or.inl ⟨by kernel_rfl, ?h3⟩) (by assumption) ?r3
      case h3 => (intro w hSw; (try dsimp only at hSw); go_simp; try with_reducible rfl)
      try simp only [Act.put, List.setIfInBounds_toArray, List.set_cons_zero, List.set_cons_succ]
      refine reg_call (i := 1) (by kernel_rfl) rfl (fun K hK => ?_)
      go_simp
      refine (impl_keyWord ⟨#[102, 110]⟩ _).mono ?_
      rintro e wa0 ⟨rfl, ba0⟩
      have owa0 := OwnW.below owd ba0 (Nat.le_refl _)
      have ga0 : OwnG (.slice Au nu_ cu) (.slice Au nu_ cu) (wo.alloc (.cells #[.string name, .slice A1 params.length p1, .slice A2 body.length p2] 43)) wa0 := gd.trans (OwnG.of_below ba0)
      have Ra0 := RKd.below ba0 RKd.lt
      refine hK.out _ _ (Ra0.cell 0) (fun hHeld => ?_)
      clear hK K
      try simp only [Act.put, List.setIfInBounds_toArray, List.set_cons_zero, List.set_cons_succ]
      refine reg_call (i := 4) (by kernel_rfl) rfl (fun K hK => ?_)
      go_simp
      refine (impl_nameWord name _).mono ?_
      rintro e wa1 ⟨rfl, ba1⟩
      have owa1 := OwnW.below owa0 ba1 (Nat.le_refl _)
      have ga1 : OwnG (.slice Au nu_ cu) (.slice Au nu_ cu) (wo.alloc (.cells #[.string name, .slice A1 params.length p1, .slice A2 body.length p2] 43)) wa1 := ga0.trans (OwnG.of_below ba1)
      have Ra1 := Ra0.below ba1 Ra0.lt
      refine hK.out _ _ (Ra1.cell 0) (fun hHeld => ?_)
      clear hK K
      try simp only [Act.put, List.setIfInBounds_toArray, List.set_cons_zero, List.set_cons_succ]
      refine reg_call (i := 5) (by kernel_rfl) rfl (fun K hK => ?_)
      go_simp
      refine (impl_signWord ⟨#[40]⟩ _).mono ?_
      rintro e wa2 ⟨rfl, ba2⟩
      have owa2 := OwnW.below owa1 ba2 (Nat.le_refl _)
      have ga2 : OwnG (.slice Au nu_ cu) (.slice Au nu_ cu) (wo.alloc (.cells #[.string name, .slice A1 params.length p1, .slice A2 body.length p2] 43)) wa2 := ga1.trans (OwnG.of_below ba2)
      have Ra2 := Ra1.below ba2 Ra1.lt
      refine hK.out _ _ (Ra2.cell 0) (fun hHeld => ?_)
      clear hK K
      try simp only [Act.put, List.setIfInBounds_toArray, List.set_cons_zero, List.set_cons_succ]
      have hsa := Nat.le_trans hbf.size ga2.size
      refine reg_call (i := 6) (by kernel_rfl) rfl (fun K hK => ?_)
      go_simp
      refine hK.out _ _ ((Ra2.alloc _).cell 0) (fun hHeld => ?_)
      clear hK K
      try simp only [Act.put, List.setIfInBounds_toArray, List.set_cons_zero, List.set_cons_succ]
      refine reg_call (i := 7) (by kernel_rfl) rfl (fun K hK => ?_)
      obtain ⟨v5, w5, rr, ow5, g5⟩ := run_words wa2 w.heap.size 39 (.slice Au nu_ cu) (acc) [⟨4, ⟨#[102, 110]⟩⟩, ⟨1, name⟩, ⟨3, ⟨#[40]⟩⟩] [.int .i64 4, .string ⟨#[102, 110]⟩, .int .i64 1, .string name, .int .i64 3, .string ⟨#[40]⟩] rfl 3 rfl owa2 (by (try simp only [List.length_append, List.length_cons, List.length_nil]); omega) (Nat.le_trans hsz hsa)
      rw [if_pos (show Region.wanted _ _ = true by kernel_rfl)]
      refine Lib.wp_append_run_sl _ _ _ 39 rfl _ _ rfl rfl rr ?_
      clear rr
      obtain ⟨A5, n5_, c5, hf_v5⟩ := OwnW.formN ow5
      subst hf_v5
      have G5 := ga2.trans g5
      have R5 : Row w5 wo.heap.size 43 #[.string name, .slice A1 params.length p1, .slice A2 body.length p2] := G5.row RF hnf
      refine hK.out _ _ (R5.cell 0) (fun hHeld => ?_)
      clear hK K
      try simp only [Act.put, List.setIfInBounds_toArray, List.set_cons_zero, List.set_cons_succ]
      refine reg_take (i := 8) (v := ?v4) rfl (by kernel_rfl) (by kernel_rfl) (by kernel_rfl) (fun _ _ _ h => h) (Or.inl ⟨by kernel_rfl, ?h4⟩) (by assumption) ?r4
      case h4 => (intro w hSw; (try dsimp only at hSw); go_simp; try with_reducible rfl)
      try simp only [Act.put, List.setIfInBounds_toArray, List.set_cons_zero, List.set_cons_succ]
      refine wpAnyH_done (by kernel_rfl) ?_ _
      have hn5 := G5.ne hnf RF.lt
      have B5 : Below w.heap.size wo w5 := ((OwnG.of_below hbf).trans G5).below hsz hgf
      have q0 : w5.cell? ⟨wo.heap.size, 0, none⟩ = some (.string name) := R5.cell 0
      have q1 : w5.cell? ⟨wo.heap.size, 1, none⟩ = some (.slice A1 params.length p1) := R5.cell 1
      have q2 : w5.cell? ⟨wo.heap.size, 2, none⟩ = some (.slice A2 body.length p2) := R5.cell 2
      have hg5 : ∀ x, Value.ownBlock (.slice A5 n5_ c5) = some x → w.heap.size ≤ x := fun x hx => own_ge ow5 hx
      have HG := Lib.hid G5
      have HOW := Lib.hid ow5
      clear G5 ga0 ga1 ga2 owa0 owa1 owa2 ba0 ba1 ba2 g5 owf owd gd bdd RKd Ra0 Ra1 Ra2
      go_wp2_with fail
      go_loopw [4, 30] (fun vv i wr => ∃ j : Nat, j ≤ params.length ∧ i = .int .i64 j ∧ OwnW wr w.heap.size vv ((acc ++ [⟨4, ⟨#[102, 110]⟩⟩, ⟨1, name⟩, ⟨3, ⟨#[40]⟩⟩]) ++ paW (params.take j)) ∧ OwnG (.slice A5 n5_ c5) vv w5 wr) (fun _ i _ => params.length - (intOf i).toNat)
      case atStart => exact ⟨0, by omega, rfl, (by rw [List.take_zero, show paW [] = [] from rfl, List.append_nil]; exact HOW.out), OwnG.refl _ _⟩
      case round =>
        obtain ⟨j, hj, rfl, owq, Gq⟩ := hrel
        clear q0 q1 q2
        have Rq : Row wr wo.heap.size 43 #[.string name, .slice A1 params.length p1, .slice A2 body.length p2] := Gq.row R5 hn5
        have Bq : Below w.heap.size wo wr := B5.trans (Gq.below (Nat.le_trans hsz B5.size) hg5)
        have Bwq := hb.trans Bq
        have hszq := Bwq.size
        have q0 : wr.cell? ⟨wo.heap.size, 0, none⟩ = some (.string name) := Rq.cell 0
        have q1 : wr.cell? ⟨wo.heap.size, 1, none⟩ = some (.slice A1 params.length p1) := Rq.cell 1
        have q2 : wr.cell? ⟨wo.heap.size, 2, none⟩ = some (.slice A2 body.length p2) := Rq.cell 2
        have hpl := paW_len (params.take j)
        have hpt : (params.take j).length ≤ 3 := by rw [List.length_take]; omega
        obtain ⟨Aq, nq_, cq, hq⟩ := OwnW.formN owq
        subst hq
        by_cases hjl : j < params.length
        · obtain ⟨bx, ox, a, hAx, _, hbBx, HLx, ga, cx⟩ := str_get (g1.below Bq hB) hjl
          subst hAx
          have hjn : (j : Int) < (params.length : Int) := by omega
          have hji : (0 : Int) ≤ (j : Int) := by omega
          have HN := Lib.hid (paW_snoc hjl HLx.out)
          by_cases hj0 : 0 < j
          · have hj0' : (0 : Int) < (j : Int) := by omega
            rw [if_pos hj0] at HN
            go_wp2_with fail
            refine (impl_signWord ⟨#[44]⟩ _).mono ?_
            rintro e w7 ⟨rfl, b7⟩
            have ow7 := OwnW.below owq b7 (Nat.le_refl _)
            have hs7 := Nat.le_trans hszq b7.size
            have cx7 := (b7.cell (p := ⟨bx, ox + j, none⟩) (Nat.lt_of_lt_of_le hbBx (Nat.le_trans hB hszq))).trans cx
            go_wp2_with (at_builtin; refine app_words rfl _ _ rfl w7 w.heap.size _ _ [⟨3, ⟨#[44]⟩⟩] _ rfl 1 rfl ow7 (by (try simp only [List.length_append, List.length_cons, List.length_nil]); omega) hs7 rfl rfl ?_)
            intro v8 w8 ow8 g8
            obtain ⟨A8, n8_, c8, hf8⟩ := OwnW.formN ow8
            subst hf8
            have g78 := (OwnG.of_below (v := .slice Aq nq_ cq) b7).trans g8
            have B8 : Below w.heap.size wr w8 := g78.below hszq (fun k hk => own_ge owq hk)
            have hs8 := Nat.le_trans hszq B8.size
            have cx8 := (B8.cell (p := ⟨bx, ox + j, none⟩) (Nat.lt_of_lt_of_le hbBx hB)).trans cx
            go_wp2_with fail
            refine (impl_nameWord a _).mono ?_
            rintro e w9 ⟨rfl, b9⟩
            have ow9 := OwnW.below ow8 b9 (Nat.le_refl _)
            have hs9 := Nat.le_trans hs8 b9.size
            go_wp2_with (at_builtin; refine app_words rfl _ _ rfl w9 w.heap.size _ _ [⟨1, a⟩] _ rfl 1 rfl ow9 (by (try simp only [List.length_append, List.length_cons, List.length_nil]); omega) hs9 rfl rfl ?_)
            intro vz wz owz gz
            go_wp2_with fail
            go_roundw
            case rel => exact ⟨j + 1, by omega, by go_num, by rw [HN.out]; simpa using owz, Gq.trans (g78.trans ((OwnG.of_below b9).trans gz))⟩
            case measure => simp [intOf]; omega
          · have hj0' : decide ((0 : Int) < (j : Int)) = false := decide_eq_false (by omega)
            rw [if_neg hj0] at HN
            go_wp2_with fail
            refine (impl_nameWord a _).mono ?_
            rintro e w9 ⟨rfl, b9⟩
            have ow9 := OwnW.below owq b9 (Nat.le_refl _)
            have hs9 := Nat.le_trans hszq b9.size
            go_wp2_with (at_builtin; refine app_words rfl _ _ rfl w9 w.heap.size _ _ [⟨1, a⟩] _ rfl 1 rfl ow9 (by (try simp only [List.length_append, List.length_cons, List.length_nil]); omega) hs9 rfl rfl ?_)
            intro vz wz owz gz
            go_wp2_with fail
            go_roundw
            case rel => exact ⟨j + 1, by omega, by go_num, by rw [HN.out]; simpa using owz, Gq.trans ((OwnG.of_below b9).trans gz)⟩
            case measure => simp [intOf]; omega
        · obtain rfl : j = params.length := by omega
          have HPT : Hid (paW (params.take params.length) = paW params) := by show _ = _; rw [List.take_length]
          skip
          skip
          have bdd : Below wr.heap.size wr wr.drew := (Below.refl _ _).drew
          have RKd : Row wr.drew wo.heap.size 43 #[.string name, .slice A1 params.length p1, .slice A2 body.length p2] := Rq
          have owd := OwnW.below owq bdd (Nat.le_refl _)
          have gd : OwnG (.slice Aq nq_ cq) (.slice Aq nq_ cq) wr wr.drew := OwnG.of_below bdd
          go_wp2_with fail
          refine wp_region_held_drew (S := fun w' => w'.cell? ⟨wo.heap.size, 2, none⟩ = some (.slice A2 body.length p2)) (by kernel_rfl) ?_ (fun hHeld => ?_)
          · exact RKd.cell 2
          generalize wr.drew = wd at hHeld RKd owd gd bdd ⊢
          refine reg_take (i := 0) (v := ?v5) rfl (by kernel_rfl) (by kernel_rfl) (by kernel_rfl) (fun _ _ _ h => h) (Or.inl ⟨by kernel_rfl, ?h5⟩) (by assumption) ?r5
          case h5 => (intro w hSw; (try dsimp only at hSw); go_simp; try with_reducible rfl)
          try simp only [Act.put, List.setIfInBounds_toArray, List.set_cons_zero, List.set_cons_succ]
          refine reg_take (i := 4) (v := ?v6) rfl (by kernel_rfl) (by kernel_rfl) (by kernel_rfl) (fun _ _ _ h => h) (Or.inl ⟨by kernel_rfl, ?h6⟩) (by assumption) ?r6
          case h6 => (intro w hSw; (try dsimp only at hSw); go_simp; try with_reducible rfl)
          try simp only [Act.put, List.setIfInBounds_toArray, List.set_cons_zero, List.set_cons_succ]
          refine reg_take (i := 5) (v := ?v7) rfl (by kernel_rfl) (by kernel_rfl) (by kernel_rfl) (fun _ _ _ h => h) (Or.inl ⟨by kernel_rfl, ?h7⟩) (by assumption) ?r7
          case h7 => (intro w hSw; (try dsimp only at hSw); go_simp; try with_reducible rfl)
          try simp only [Act.put, List.setIfInBounds_toArray, List.set_cons_zero, List.set_cons_succ]
          refine reg_call (i := 1) (by kernel_rfl) rfl (fun K hK => ?_)
          go_simp
          refine (impl_signWord ⟨#[41]⟩ _).mono ?_
          rintro e wa0 ⟨rfl, ba0⟩
          have owa0 := OwnW.below owd ba0 (Nat.le_refl _)
          have ga0 : OwnG (.slice Aq nq_ cq) (.slice Aq nq_ cq) wr wa0 := gd.trans (OwnG.of_below ba0)
          have Ra0 := RKd.below ba0 RKd.lt
          refine hK.out _ _ (Ra0.cell 2) (fun hHeld => ?_)
          clear hK K
          try simp only [Act.put, List.setIfInBounds_toArray, List.set_cons_zero, List.set_cons_succ]
          refine reg_call (i := 2) (by kernel_rfl) rfl (fun K hK => ?_)
          go_simp
          refine hK.out _ _ ((Ra0.alloc _).cell 2) (fun hHeld => ?_)
          clear hK K
          try simp only [Act.put, List.setIfInBounds_toArray, List.set_cons_zero, List.set_cons_succ]
          refine reg_call (i := 3) (by kernel_rfl) rfl (fun K hK => ?_)
          obtain ⟨v8, w8, rr, ow8, g8⟩ := run_words wa0 w.heap.size 39 (.slice Aq nq_ cq) ((acc ++ [⟨4, ⟨#[102, 110]⟩⟩, ⟨1, name⟩, ⟨3, ⟨#[40]⟩⟩]) ++ paW (params.take params.length)) [⟨3, ⟨#[41]⟩⟩] [.int .i64 3, .string ⟨#[41]⟩] rfl 1 rfl owa0 (by (try simp only [List.length_append, List.length_cons, List.length_nil]); omega) (Nat.le_trans hszq ga0.size)
          rw [if_pos (show Region.wanted _ _ = true by kernel_rfl)]
          refine Lib.wp_append_run_sl _ _ _ 39 rfl _ _ rfl rfl rr ?_
          clear rr
          obtain ⟨A8, n8_, c8, hf_v8⟩ := OwnW.formN ow8
          subst hf_v8
          have g78 := ga0.trans g8
          have R8 : Row w8 wo.heap.size 43 #[.string name, .slice A1 params.length p1, .slice A2 body.length p2] := g78.row Rq (Gq.ne hn5 R5.lt)
          refine hK.out _ _ (R8.cell 2) (fun hHeld => ?_)
          clear hK K
          try simp only [Act.put, List.setIfInBounds_toArray, List.set_cons_zero, List.set_cons_succ]
          have B8 : Below w.heap.size wr w8 := g78.below hszq (fun k hk => own_ge owq hk)
          have Bw8 := Bwq.trans B8
          refine reg_call (i := 6) (by kernel_rfl) rfl (fun K hK => ?_)
          go_simp
          refine (impl_blockWords 4 d body (.slice A2 body.length p2) _ lo B w.heap.size _ _ hB Bw8.size (g2.below (Bq.trans B8) hB) HBO.out HCB.out (fun w9 b9 => HTX.out w9 (Bw8.trans b9)) ow8 (by rw [List.take_length, blW_len]; (try simp only [List.length_append, List.length_cons, List.length_nil]); omega)).mono ?_
          rintro e wz ⟨vz, rfl, owz, gz⟩
          have RZ : Row wz wo.heap.size 43 #[.string name, .slice A1 params.length p1, .slice A2 body.length p2] := gz.row R8 (g78.ne (Gq.ne hn5 R5.lt) Rq.lt)
          refine hK.out _ _ (RZ.cell 2) (fun hHeld => ?_)
          clear hK K
          try simp only [Act.put, List.setIfInBounds_toArray, List.set_cons_zero, List.set_cons_succ]
          refine reg_take (i := 7) (v := ?v8) rfl (by kernel_rfl) (by kernel_rfl) (by kernel_rfl) (fun _ _ _ h => h) (Or.inl ⟨by kernel_rfl, ?h8⟩) (by assumption) ?r8
          case h8 => (intro w hSw; (try dsimp only at hSw); go_simp; try with_reducible rfl)
          try simp only [Act.put, List.setIfInBounds_toArray, List.set_cons_zero, List.set_cons_succ]
          refine wpAnyH_done (by kernel_rfl) ?_ _
          go_wp2_with fail
          go_roundw
          case rel => exact ⟨k + 1, _, by omega, by go_num, HSN, (by unfold fnW; rw [← HPT.out]; simpa using owz), G.trans ((OwnG.of_below hbf).trans (HG.out.trans (Gq.trans (g78.trans gz))))⟩
          case measure => simp [intOf]; omega
    · obtain rfl : acc = prW fns := by have h1 := HK.out; rw [List.take_of_length_le (by omega)] at h1; exact h1.symm
      clear HK
      go_wp2_with fail
      refine (impl_JoinWords (prW fns) _ wo w.heap.size wo.heap.size (Nat.le_refl _) HBK.out (Sl.of_ownW own HSH.out (Nat.le_refl _) false) ((HTX.out _ hb).1.1)).mono ?_
      rintro e w3 ⟨rfl, b3⟩
      have hb3 : Below w.heap.size w w3 := hb.trans (b3.mono hb.size)
      have HV : Hid (jV (prW fns) = .tuple #[.string (jS (prW fns)), .bool (jOk (prW fns))]) := jV_eq _
      rw [HV.out]
      go_wp2_with fail
      go_ret2
      exact RetV.mk (by rw [E.out, HV.out] <;> rfl) rfl hb3
end Go.Proofs.YtbikgakoeheahaaGreatDoor
