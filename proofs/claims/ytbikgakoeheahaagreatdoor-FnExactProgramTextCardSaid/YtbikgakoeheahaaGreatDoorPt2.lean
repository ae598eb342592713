/-
  The text of a program, by the reference. Conditions: the argument reads as data; it is a valid one.
-/
import Derived.Test.YtbikgakoeheahaaGreatDoorPt1
import Derived.Test.YtbikgakoeheahaaGreatDoorText3
namespace Go.Proofs.YtbikgakoeheahaaGreatDoor
open Go.RowKit Go.ChangeShapes Go.WideShapes Go.Deep
set_option linter.unusedVariables false
set_option linter.unusedSimpArgs false
theorem cnL_take : ∀ (l : List St) (k : Nat), cnL (l.take k) ≤ cnL l
  | [], k => by rw [List.take_nil]; exact Nat.le_refl _
  | s :: r, 0 => by rw [List.take_zero, cnL]; exact Nat.zero_le _
  | s :: r, k + 1 => by
    have := cnL_take r k
    rw [List.take_succ_cons, cnL, cnL]
    omega
theorem all_take {α : Type} {p : α → Bool} {l : List α} (h : l.all p = true) (k : Nat) : (l.take k).all p = true := by
  rw [List.all_eq_true] at h ⊢
  exact fun x hx => h x (List.mem_of_mem_take hx)
theorem one_words {op : Int} {args : List Ex} (hv : args.all valE = true) (hl : args.length = stK op) (h4 : op ≠ 4) : ∃ e, args = [e] ∧ valE e = true := by
  unfold stK at hl
  rw [if_neg h4] at hl
  obtain ⟨a, rfl⟩ := one_listT hl
  rw [List.all_cons, Bool.and_eq_true] at hv
  exact ⟨a, rfl, hv.1⟩
theorem two_words {args : List Ex} (hv : args.all valE = true) (hl : args.length = stK 4) : ∃ e f, args = [e, f] ∧ valE e = true ∧ valE f = true := by
  obtain ⟨a, b, rfl⟩ := two_listT (show args.length = 2 from hl)
  rw [List.all_cons, List.all_cons, Bool.and_eq_true, Bool.and_eq_true] at hv
  exact ⟨a, b, rfl, hv.1, hv.2.1⟩
theorem tx_bound {e : Ex} (h : valE e = true) : (txE 6 1 e).size ≤ 900 := by
  have h1 := wv_text (wv_word false e (val_form6 h).1)
  have h2 := wdE_len6 h
  rw [tx_words h]
  omega
theorem bl_bound {m : Nat} {l : List St} (h : l.all (stB m) = true) (hc : cnL l ≤ 40) : (jT (blW l)).size ≤ 90000 := by
  have h1 := wv_text (blW_wv (stsW_wv m l h))
  have h2 := stsW_len m l h
  have h3 := blW_len l
  omega
theorem st_bound {m : Nat} {s : St} (h : stB m s = true) (hc : cnS s ≤ 40) : (jT (stW s)).size ≤ 90000 := by
  have h1 := wv_text (stW_wv m s h)
  have h2 := stW_len m s h
  omega
theorem bl_open {m : Nat} {l : List St} (h : l.all (stB m) = true) (hc : cnL l ≤ 40) (k : Nat) : (jT ([⟨3, ⟨#[123]⟩⟩] ++ stsW (l.take k))).size ≤ 90000 := by
  have h0 := all_take h k
  have h1 : ([(⟨3, ⟨#[123]⟩⟩ : WordD)] ++ stsW (l.take k)).all wv = true := by
    rw [List.all_append, stsW_wv m _ h0, List.all_cons, sgn_wv.1]
    rfl
  have h2 := wv_text h1
  have h3 := stsW_len m _ h0
  have h4 := cnL_take l k
  simp only [List.length_append, List.length_cons, List.length_nil] at h2
  omega
theorem line1 {name : ByteArray} {e : Ex} {body els : List St} (he : valE e = true) : jT (stW (.mk 1 name [e] body els)) = (((⟨#[108, 101, 116, 32]⟩ ++ name) ++ ⟨#[32, 61, 32]⟩) ++ txE 6 1 e) ++ ⟨#[32, 59]⟩ := by
  rw [stW_mk, agW_one, tx_words he]
  show jT ([⟨4, ⟨#[108, 101, 116]⟩⟩, ⟨1, name⟩, ⟨3, ⟨#[61]⟩⟩] ++ (wdE 6 false e ++ [⟨3, ⟨#[59]⟩⟩])) = _
  rw [jT_app (by simp) _ (by simp), jT_snoc (wdE_ne6 he)]
  simp only [jT_cons (List.cons_ne_nil _ _), jT_one]
  exact ba_of (by simp)
theorem line2 {name : ByteArray} {e : Ex} {body els : List St} (he : valE e = true) : jT (stW (.mk 2 name [e] body els)) = ((name ++ ⟨#[32, 61, 32]⟩) ++ txE 6 1 e) ++ ⟨#[32, 59]⟩ := by
  rw [stW_mk, agW_one, tx_words he]
  show jT ([⟨1, name⟩, ⟨3, ⟨#[61]⟩⟩] ++ (wdE 6 false e ++ [⟨3, ⟨#[59]⟩⟩])) = _
  rw [jT_app (by simp) _ (by simp), jT_snoc (wdE_ne6 he)]
  simp only [jT_cons (List.cons_ne_nil _ _), jT_one]
  exact ba_of (by simp)
theorem line3 {name : ByteArray} {e : Ex} {body els : List St} (he : valE e = true) : jT (stW (.mk 3 name [e] body els)) = (⟨#[115, 97, 121, 32]⟩ ++ txE 6 1 e) ++ ⟨#[32, 59]⟩ := by
  rw [stW_mk, agW_one, tx_words he]
  show jT ([⟨4, ⟨#[115, 97, 121]⟩⟩] ++ (wdE 6 false e ++ [⟨3, ⟨#[59]⟩⟩])) = _
  rw [jT_app (by simp) _ (by simp), jT_snoc (wdE_ne6 he), jT_one]
  exact ba_of (by simp)
theorem line4 {name : ByteArray} {e f : Ex} {body els : List St} (he : valE e = true) (hf : valE f = true) : jT (stW (.mk 4 name [e, f] body els)) = (((⟨#[112, 117, 116, 32]⟩ ++ txE 6 1 e) ++ ⟨#[32, 44, 32]⟩) ++ txE 6 1 f) ++ ⟨#[32, 59]⟩ := by
  rw [stW_mk, agW_two, tx_words he, tx_words hf]
  show jT ([⟨4, ⟨#[112, 117, 116]⟩⟩] ++ ((wdE 6 false e ++ ([⟨3, ⟨#[44]⟩⟩] ++ wdE 6 false f)) ++ [⟨3, ⟨#[59]⟩⟩])) = _
  rw [jT_app (by simp) _ (by simp), jT_snoc (by simp), jT_app (wdE_ne6 he) _ (by simp), jT_app (by simp) _ (wdE_ne6 hf), jT_one, jT_one]
  exact ba_of (by simp)
theorem line5 {name : ByteArray} {e : Ex} {body els : List St} (he : valE e = true) (hn : els.length = 0) : jT (stW (.mk 5 name [e] body els)) = ((⟨#[105, 102, 32]⟩ ++ txE 6 1 e) ++ ⟨#[32]⟩) ++ jT (blW body) := by
  rw [stW_mk, agW_one, tx_words he, if_pos (by omega), if_pos hn, List.append_nil]
  show jT ([⟨4, ⟨#[105, 102]⟩⟩] ++ (wdE 6 false e ++ blW body)) = _
  rw [jT_app (by simp) _ (app_ne (blW_ne _)), jT_app (wdE_ne6 he) _ (blW_ne _), jT_one]
  exact ba_of (by simp)
theorem line5e {name : ByteArray} {e : Ex} {body els : List St} (he : valE e = true) (hn : ¬ els.length = 0) : jT (stW (.mk 5 name [e] body els)) = ((((⟨#[105, 102, 32]⟩ ++ txE 6 1 e) ++ ⟨#[32]⟩) ++ jT (blW body)) ++ ⟨#[32, 101, 108, 115, 101, 32]⟩) ++ jT (blW els) := by
  rw [stW_mk, agW_one, tx_words he, if_pos (by omega), if_neg hn]
  show jT ([⟨4, ⟨#[105, 102]⟩⟩] ++ (wdE 6 false e ++ (blW body ++ ([⟨4, ⟨#[101, 108, 115, 101]⟩⟩] ++ blW els)))) = _
  rw [jT_app (by simp) _ (app_ne (app_ne (app_ne (blW_ne _)))), jT_app (wdE_ne6 he) _ (app_ne (app_ne (blW_ne _))), jT_app (blW_ne _) _ (app_ne (blW_ne _)), jT_app (by simp) _ (blW_ne _), jT_one, jT_one]
  exact ba_of (by simp)
theorem line6 {name : ByteArray} {e : Ex} {body els : List St} (he : valE e = true) (hn : els.length = 0) : jT (stW (.mk 6 name [e] body els)) = ((⟨#[108, 111, 111, 112, 32]⟩ ++ txE 6 1 e) ++ ⟨#[32]⟩) ++ jT (blW body) := by
  rw [stW_mk, agW_one, tx_words he, if_pos (by omega), if_pos hn, List.append_nil]
  show jT ([⟨4, ⟨#[108, 111, 111, 112]⟩⟩] ++ (wdE 6 false e ++ blW body)) = _
  rw [jT_app (by simp) _ (app_ne (blW_ne _)), jT_app (wdE_ne6 he) _ (blW_ne _), jT_one]
  exact ba_of (by simp)
theorem line7 {name : ByteArray} {e : Ex} {body els : List St} (he : valE e = true) : jT (stW (.mk 7 name [e] body els)) = (⟨#[98, 97, 99, 107, 32]⟩ ++ txE 6 1 e) ++ ⟨#[32, 59]⟩ := by
  rw [stW_mk, agW_one, tx_words he]
  show jT ([⟨4, ⟨#[98, 97, 99, 107]⟩⟩] ++ (wdE 6 false e ++ [⟨3, ⟨#[59]⟩⟩])) = _
  rw [jT_app (by simp) _ (by simp), jT_snoc (wdE_ne6 he), jT_one]
  exact ba_of (by simp)
theorem line8 {name : ByteArray} {e : Ex} {body els : List St} (he : valE e = true) : jT (stW (.mk 8 name [e] body els)) = (⟨#[100, 111, 32]⟩ ++ txE 6 1 e) ++ ⟨#[32, 59]⟩ := by
  rw [stW_mk, agW_one, tx_words he]
  show jT ([⟨4, ⟨#[100, 111]⟩⟩] ++ (wdE 6 false e ++ [⟨3, ⟨#[59]⟩⟩])) = _
  rw [jT_app (by simp) _ (by simp), jT_snoc (wdE_ne6 he), jT_one]
  exact ba_of (by simp)
def LineAt (m : Nat) : Prop := ∀ (d : Nat) (op : Int) (name : ByteArray) (args : List Ex) (v2 : Value) (body : List St) (v3 : Value) (els : List St) (v4 : Value) (w : World) (lo B : Nat) (_ : B ≤ w.heap.size) (_ : name.size ≤ maxLen) (_ : Sl false (exS false d) w lo B args v2) (_ : Sl false (stS false d) w lo B body v3) (_ : Sl false (stS false d) w lo B els v4) (_ : stB m (.mk op name args body els) = true) (_ : cnS (.mk op name args body els) ≤ 40),
  Calls Tryz.prog 47 #[.agg #[.int .i64 op, .string name, v2, v3, v4]] w (RetV (.string (jT (stW (.mk op name args body els)))) w)
def BlockAt (m : Nat) : Prop := ∀ (d : Nat) (l : List St) (v : Value) (w : World) (lo B : Nat) (_ : B ≤ w.heap.size) (_ : Sl false (stS false d) w lo B l v) (_ : l.all (stB m) = true) (_ : cnL l ≤ 40), Calls Tryz.prog 27 #[v] w (RetV (.string (jT (blW l))) w)
set_option maxRecDepth 100000 in
set_option maxHeartbeats 4000000 in
theorem block_of (m : Nat) (ih : LineAt m) : BlockAt m := by
  intro d l v w lo B hB hv hall hc
  obtain ⟨A, p, hf, hl1, hl2⟩ := hv.form
  subst hf
  have HS : Hid (∀ k, (jT ([⟨3, ⟨#[123]⟩⟩] ++ stsW (l.take k))).size ≤ 90000) := fun k => bl_open hall hc k
  have HA := Lib.hid hall
  have HC := Lib.hid hc
  clear hall hc
  have z1 : (⟨#[32]⟩ : ByteArray).size = 1 := rfl
  have z2 : (⟨#[32, 125]⟩ : ByteArray).size = 2 := rfl
  go_enter Tryz.func27, Tryz.ntmps27
  go_wp2_with fail
  go_loopw [3, 4] (fun u i wr => ∃ (k : Nat) (o : ByteArray), k ≤ l.length ∧ u = .string o ∧ i = .int .i64 k ∧ Hid (jT ([⟨3, ⟨#[123]⟩⟩] ++ stsW (l.take k)) = o) ∧ Below w.heap.size w wr) (fun _ i _ => l.length - (intOf i).toNat)
  case atStart => exact ⟨0, _, by omega, rfl, rfl, (by show _ = _; rw [List.take_zero, stsW, List.append_nil, jT_one]), Below.refl _ _⟩
  case round =>
    obtain ⟨k, o, hk, rfl, rfl, HO, hb⟩ := hrel
    have hsz := hb.size
    have hos : o.size ≤ 90000 := HO.out ▸ HS.out k
    by_cases hkl : k < l.length
    · obtain ⟨d', rfl⟩ := stS_pos hv (by omega)
      obtain ⟨b, oo, op, name, args, v2, body, v3, els, v4, rfl, _, hbB, HL, g0, g1, g2, g3, g4, c0, c1, c2, c3, c4⟩ := st_get d' (hv.below hb hB) hkl
      obtain ⟨A2, p2, hf, _, _⟩ := g2.form
      change _ = Value.slice A2 args.length p2 at hf
      subst hf
      obtain ⟨A3, p3, hf, _, _⟩ := g3.form
      change _ = Value.slice A3 body.length p3 at hf
      subst hf
      obtain ⟨A4, p4, hf, _, _⟩ := g4.form
      change _ = Value.slice A4 els.length p4 at hf
      subst hf
      have hkn : (k : Int) < (l.length : Int) := by omega
      have hki : (0 : Int) ≤ (k : Int) := by omega
      have hmem : St.mk op name args body els ∈ l := HL.out ▸ List.getElem_mem hkl
      have hok := List.all_eq_true.1 HA.out _ hmem
      have hcn : cnS (.mk op name args body els) ≤ 40 := Nat.le_trans (cnL_mem hmem) HC.out
      obtain ⟨t, ht⟩ : ∃ t, jT (stW (.mk op name args body els)) = t := ⟨_, rfl⟩
      have hts : t.size ≤ 90000 := ht ▸ st_bound hok hcn
      have HT := Lib.hid ht
      have HN : Hid (jT ([⟨3, ⟨#[123]⟩⟩] ++ stsW (l.take (k + 1))) = (o ++ ⟨#[32]⟩) ++ t) := by
        show _ = _
        rw [stsW_snoc hkl HL.out, ← List.append_assoc, jT_app (by simp) _ (stW_ne _), HO.out, ht]
      have HOK := Lib.hid hok
      have HCN := Lib.hid hcn
      clear ht HO hok hcn hmem
      have hs3 : (o ++ ⟨#[32]⟩).size = o.size + 1 := by rw [ByteArray.size_append, z1]
      have hs4 : ((o ++ ⟨#[32]⟩) ++ t).size = o.size + 1 + t.size := by rw [ByteArray.size_append, hs3]
      go_wp2_with fail
      refine (ih d' op name args _ body _ els _ _ lo B (Nat.le_trans hB hsz) g1 g2 g3 g4 HOK.out HCN.out).mono ?_
      rw [HT.out]
      rintro e w3 ⟨rfl, x3⟩
      have hb3 : Below w.heap.size w w3 := hb.trans (x3.mono hsz)
      go_wp2_with fail
      go_roundw
      case rel => exact ⟨k + 1, _, by omega, rfl, by go_num, HN, hb3⟩
      case measure => simp [intOf]; omega
    · have E : Hid (jT (blW l) = o ++ ⟨#[32, 125]⟩) := by
        have h1 := HO.out
        rw [List.take_of_length_le (by omega)] at h1
        show _ = _
        unfold blW
        rw [← List.append_assoc, jT_snoc (by simp), h1]
        exact ba_of (by simp)
      clear HO
      have hs3 : (o ++ ⟨#[32, 125]⟩).size = o.size + 2 := by rw [ByteArray.size_append, z2]
      go_wp2_with fail
      go_ret
      exact RetV.mk (by rw [E.out] <;> rfl) rfl hb
set_option maxRecDepth 100000 in
set_option maxHeartbeats 4000000 in
theorem line_of1 (m : Nat) (ih : BlockAt m) (d : Nat) (name : ByteArray) (args : List Ex) (v2 : Value) (body : List St) (v3 : Value) (els : List St) (v4 : Value) (w : World) (lo B : Nat) (hB : B ≤ w.heap.size) (hnm : name.size ≤ maxLen) (h2 : Sl false (exS false d) w lo B args v2) (h3 : Sl false (stS false d) w lo B body v3) (h4 : Sl false (stS false d) w lo B els v4) (hst : stB (m + 1) (.mk 1 name args body els) = true) (hc : cnS (.mk 1 name args body els) ≤ 40) :
    Calls Tryz.prog 47 #[.agg #[.int .i64 1, .string name, v2, v3, v4]] w (RetV (.string (jT (stW (.mk 1 name args body els)))) w) := by
  obtain ⟨-, hlen, hnmB, hvs, hels, hbody, hb3', hb4'⟩ := st_in hst
  clear hst
  obtain ⟨A2, p2, hf, _, _⟩ := h2.form
  subst hf
  obtain ⟨A3, p3, hf, _, _⟩ := h3.form
  subst hf
  obtain ⟨A4, p4, hf, _, _⟩ := h4.form
  subst hf
  have hll : args.length = 1 := hlen
  have hlen0 : 0 < args.length := by omega
  have hlen0' : (0 : Int) < (args.length : Int) := by omega
  obtain ⟨d', rfl⟩ := exS_pos h2 (by omega)
  have hb0 : Below w.heap.size w (w.alloc (.cells #[.int .i64 1, .string name, .slice A2 args.length p2, .slice A3 body.length p3, .slice A4 els.length p4] 76)) := (Below.refl _ _).alloc (Nat.le_refl _) _
  have R0 : Row (w.alloc (.cells #[.int .i64 1, .string name, .slice A2 args.length p2, .slice A3 body.length p3, .slice A4 els.length p4] 76)) w.heap.size 76 #[.int .i64 1, .string name, .slice A2 args.length p2, .slice A3 body.length p3, .slice A4 els.length p4] := Row.new w _ _
  obtain ⟨bkx, ox, xop, xn, xname, xkids, xv, hAx, _, hbBx, HLx, g0x, g1x, g2x, g3x, c0x, c1x, c2x, c3x⟩ := ex_get d' (h2.below hb0 hB) (i := 0) hlen0
  obtain ⟨Ax, px, hfx, _, _⟩ := g3x.form
  change _ = Value.slice Ax xkids.length px at hfx
  subst hfx
  subst hAx
  have x0 : (w.alloc (.cells #[.int .i64 1, .string name, .slice (some ⟨bkx, ox, none⟩) args.length p2, .slice A3 body.length p3, .slice A4 els.length p4] 76)).cell? ⟨bkx, ox, none⟩ = some (.int .i64 xop) := by simpa [Nat.add_assoc] using c0x
  have x1 : (w.alloc (.cells #[.int .i64 1, .string name, .slice (some ⟨bkx, ox, none⟩) args.length p2, .slice A3 body.length p3, .slice A4 els.length p4] 76)).cell? ⟨bkx, ox + 1, none⟩ = some (.int .i64 xn) := by simpa [Nat.add_assoc] using c1x
  have x2 : (w.alloc (.cells #[.int .i64 1, .string name, .slice (some ⟨bkx, ox, none⟩) args.length p2, .slice A3 body.length p3, .slice A4 els.length p4] 76)).cell? ⟨bkx, ox + 2, none⟩ = some (.string xname) := by simpa [Nat.add_assoc] using c2x
  have x3 : (w.alloc (.cells #[.int .i64 1, .string name, .slice (some ⟨bkx, ox, none⟩) args.length p2, .slice A3 body.length p3, .slice A4 els.length p4] 76)).cell? ⟨bkx, ox + 3, none⟩ = some (.slice Ax xkids.length px) := by simpa [Nat.add_assoc] using c3x
  clear c0x c1x c2x c3x
  obtain ⟨xe, hae, hvx⟩ := one_words hvs hlen (by omega)
  have hx0 : xe = .mk xop xn xname xkids := by have := HLx.out; simpa [hae] using this
  subst hx0
  obtain ⟨tx, htx⟩ : ∃ t, txE 6 1 (.mk xop xn xname xkids) = t := ⟨_, rfl⟩
  have hsx : tx.size ≤ 900 := htx ▸ tx_bound hvx
  have hns : name.size ≤ 4 := by
    unfold nmB at hnmB
    rw [if_pos (by omega)] at hnmB
    simp only [isName, Bool.and_eq_true, decide_eq_true_eq] at hnmB
    exact hnmB.2.1
  have E : Hid (jT (stW (.mk 1 name args body els)) = ((((⟨#[108, 101, 116, 32]⟩ ++ name) ++ ⟨#[32, 61, 32]⟩) ++ tx) ++ ⟨#[32, 59]⟩)) := by show _ = _; rw [hae, line1 hvx, htx]
  have HTx := Lib.hid htx
  have HFx := Lib.hid (val_form6 hvx)
  clear htx hvx hae hvs HLx
  have HLL := Lib.hid hll
  clear hll hlen
  have zs1 : (⟨#[108, 101, 116, 32]⟩ : ByteArray).size = 4 := rfl
  have zs2 : ((⟨#[108, 101, 116, 32]⟩ ++ name) : ByteArray).size = 4 + name.size := by rw [ByteArray.size_append, zs1]
  have zs3 : (⟨#[32, 61, 32]⟩ : ByteArray).size = 3 := rfl
  have zs4 : (((⟨#[108, 101, 116, 32]⟩ ++ name) ++ ⟨#[32, 61, 32]⟩) : ByteArray).size = 4 + name.size + 3 := by rw [ByteArray.size_append, zs2, zs3]
  have zs5 : ((((⟨#[108, 101, 116, 32]⟩ ++ name) ++ ⟨#[32, 61, 32]⟩) ++ tx) : ByteArray).size = 4 + name.size + 3 + tx.size := by rw [ByteArray.size_append, zs4]
  have zs6 : (⟨#[32, 59]⟩ : ByteArray).size = 2 := rfl
  have zs7 : (((((⟨#[108, 101, 116, 32]⟩ ++ name) ++ ⟨#[32, 61, 32]⟩) ++ tx) ++ ⟨#[32, 59]⟩) : ByteArray).size = 4 + name.size + 3 + tx.size + 2 := by rw [ByteArray.size_append, zs5, zs6]
  go_enter Tryz.func47, Tryz.ntmps47
  go_wp2_with fail
  refine (spec_l2Text 6 1 d' xop xn xname xkids (.slice Ax xkids.length px) _ lo B (Nat.le_trans hB hb0.size) g0x g1x g2x g3x HFx.out.1 HFx.out.2 (by omega)).mono ?_
  rw [HTx.out]
  rintro e w1 ⟨rfl, b1⟩
  have hb1 : Below w.heap.size w w1 := hb0.trans (b1.mono hb0.size)
  have R1 := R0.below b1 R0.lt
  have y0 : w1.cell? ⟨w.heap.size, 0, none⟩ = some (.int .i64 1) := R1.cell 0
  have y1 : w1.cell? ⟨w.heap.size, 1, none⟩ = some (.string name) := R1.cell 1
  have y2 : w1.cell? ⟨w.heap.size, 2, none⟩ = some (.slice (some ⟨bkx, ox, none⟩) args.length p2) := R1.cell 2
  have y3 : w1.cell? ⟨w.heap.size, 3, none⟩ = some (.slice A3 body.length p3) := R1.cell 3
  have y4 : w1.cell? ⟨w.heap.size, 4, none⟩ = some (.slice A4 els.length p4) := R1.cell 4
  go_wp2_with fail
  go_ret
  exact RetV.mk (by rw [E.out] <;> rfl) rfl hb1
set_option maxRecDepth 100000 in
set_option maxHeartbeats 4000000 in
theorem line_of2 (m : Nat) (ih : BlockAt m) (d : Nat) (name : ByteArray) (args : List Ex) (v2 : Value) (body : List St) (v3 : Value) (els : List St) (v4 : Value) (w : World) (lo B : Nat) (hB : B ≤ w.heap.size) (hnm : name.size ≤ maxLen) (h2 : Sl false (exS false d) w lo B args v2) (h3 : Sl false (stS false d) w lo B body v3) (h4 : Sl false (stS false d) w lo B els v4) (hst : stB (m + 1) (.mk 2 name args body els) = true) (hc : cnS (.mk 2 name args body els) ≤ 40) :
    Calls Tryz.prog 47 #[.agg #[.int .i64 2, .string name, v2, v3, v4]] w (RetV (.string (jT (stW (.mk 2 name args body els)))) w) := by
  obtain ⟨-, hlen, hnmB, hvs, hels, hbody, hb3', hb4'⟩ := st_in hst
  clear hst
  obtain ⟨A2, p2, hf, _, _⟩ := h2.form
  subst hf
  obtain ⟨A3, p3, hf, _, _⟩ := h3.form
  subst hf
  obtain ⟨A4, p4, hf, _, _⟩ := h4.form
  subst hf
  have hll : args.length = 1 := hlen
  have hlen0 : 0 < args.length := by omega
  have hlen0' : (0 : Int) < (args.length : Int) := by omega
  obtain ⟨d', rfl⟩ := exS_pos h2 (by omega)
  have hb0 : Below w.heap.size w (w.alloc (.cells #[.int .i64 2, .string name, .slice A2 args.length p2, .slice A3 body.length p3, .slice A4 els.length p4] 76)) := (Below.refl _ _).alloc (Nat.le_refl _) _
  have R0 : Row (w.alloc (.cells #[.int .i64 2, .string name, .slice A2 args.length p2, .slice A3 body.length p3, .slice A4 els.length p4] 76)) w.heap.size 76 #[.int .i64 2, .string name, .slice A2 args.length p2, .slice A3 body.length p3, .slice A4 els.length p4] := Row.new w _ _
  obtain ⟨bkx, ox, xop, xn, xname, xkids, xv, hAx, _, hbBx, HLx, g0x, g1x, g2x, g3x, c0x, c1x, c2x, c3x⟩ := ex_get d' (h2.below hb0 hB) (i := 0) hlen0
  obtain ⟨Ax, px, hfx, _, _⟩ := g3x.form
  change _ = Value.slice Ax xkids.length px at hfx
  subst hfx
  subst hAx
  have x0 : (w.alloc (.cells #[.int .i64 2, .string name, .slice (some ⟨bkx, ox, none⟩) args.length p2, .slice A3 body.length p3, .slice A4 els.length p4] 76)).cell? ⟨bkx, ox, none⟩ = some (.int .i64 xop) := by simpa [Nat.add_assoc] using c0x
  have x1 : (w.alloc (.cells #[.int .i64 2, .string name, .slice (some ⟨bkx, ox, none⟩) args.length p2, .slice A3 body.length p3, .slice A4 els.length p4] 76)).cell? ⟨bkx, ox + 1, none⟩ = some (.int .i64 xn) := by simpa [Nat.add_assoc] using c1x
  have x2 : (w.alloc (.cells #[.int .i64 2, .string name, .slice (some ⟨bkx, ox, none⟩) args.length p2, .slice A3 body.length p3, .slice A4 els.length p4] 76)).cell? ⟨bkx, ox + 2, none⟩ = some (.string xname) := by simpa [Nat.add_assoc] using c2x
  have x3 : (w.alloc (.cells #[.int .i64 2, .string name, .slice (some ⟨bkx, ox, none⟩) args.length p2, .slice A3 body.length p3, .slice A4 els.length p4] 76)).cell? ⟨bkx, ox + 3, none⟩ = some (.slice Ax xkids.length px) := by simpa [Nat.add_assoc] using c3x
  clear c0x c1x c2x c3x
  obtain ⟨xe, hae, hvx⟩ := one_words hvs hlen (by omega)
  have hx0 : xe = .mk xop xn xname xkids := by have := HLx.out; simpa [hae] using this
  subst hx0
  obtain ⟨tx, htx⟩ : ∃ t, txE 6 1 (.mk xop xn xname xkids) = t := ⟨_, rfl⟩
  have hsx : tx.size ≤ 900 := htx ▸ tx_bound hvx
  have hns : name.size ≤ 4 := by
    unfold nmB at hnmB
    rw [if_pos (by omega)] at hnmB
    simp only [isName, Bool.and_eq_true, decide_eq_true_eq] at hnmB
    exact hnmB.2.1
  have E : Hid (jT (stW (.mk 2 name args body els)) = (((name ++ ⟨#[32, 61, 32]⟩) ++ tx) ++ ⟨#[32, 59]⟩)) := by show _ = _; rw [hae, line2 hvx, htx]
  have HTx := Lib.hid htx
  have HFx := Lib.hid (val_form6 hvx)
  clear htx hvx hae hvs HLx
  have HLL := Lib.hid hll
  clear hll hlen
  have zs8 : (⟨#[32, 61, 32]⟩ : ByteArray).size = 3 := rfl
  have zs9 : ((name ++ ⟨#[32, 61, 32]⟩) : ByteArray).size = name.size + 3 := by rw [ByteArray.size_append, zs8]
  have zs10 : (((name ++ ⟨#[32, 61, 32]⟩) ++ tx) : ByteArray).size = name.size + 3 + tx.size := by rw [ByteArray.size_append, zs9]
  have zs11 : (⟨#[32, 59]⟩ : ByteArray).size = 2 := rfl
  have zs12 : ((((name ++ ⟨#[32, 61, 32]⟩) ++ tx) ++ ⟨#[32, 59]⟩) : ByteArray).size = name.size + 3 + tx.size + 2 := by rw [ByteArray.size_append, zs10, zs11]
  go_enter Tryz.func47, Tryz.ntmps47
  go_wp2_with fail
  refine (spec_l2Text 6 1 d' xop xn xname xkids (.slice Ax xkids.length px) _ lo B (Nat.le_trans hB hb0.size) g0x g1x g2x g3x HFx.out.1 HFx.out.2 (by omega)).mono ?_
  rw [HTx.out]
  rintro e w1 ⟨rfl, b1⟩
  have hb1 : Below w.heap.size w w1 := hb0.trans (b1.mono hb0.size)
  have R1 := R0.below b1 R0.lt
  have y0 : w1.cell? ⟨w.heap.size, 0, none⟩ = some (.int .i64 2) := R1.cell 0
  have y1 : w1.cell? ⟨w.heap.size, 1, none⟩ = some (.string name) := R1.cell 1
  have y2 : w1.cell? ⟨w.heap.size, 2, none⟩ = some (.slice (some ⟨bkx, ox, none⟩) args.length p2) := R1.cell 2
  have y3 : w1.cell? ⟨w.heap.size, 3, none⟩ = some (.slice A3 body.length p3) := R1.cell 3
  have y4 : w1.cell? ⟨w.heap.size, 4, none⟩ = some (.slice A4 els.length p4) := R1.cell 4
  go_wp2_with fail
  go_ret
  exact RetV.mk (by rw [E.out] <;> rfl) rfl hb1
set_option maxRecDepth 100000 in
set_option maxHeartbeats 4000000 in
theorem line_of3 (m : Nat) (ih : BlockAt m) (d : Nat) (name : ByteArray) (args : List Ex) (v2 : Value) (body : List St) (v3 : Value) (els : List St) (v4 : Value) (w : World) (lo B : Nat) (hB : B ≤ w.heap.size) (hnm : name.size ≤ maxLen) (h2 : Sl false (exS false d) w lo B args v2) (h3 : Sl false (stS false d) w lo B body v3) (h4 : Sl false (stS false d) w lo B els v4) (hst : stB (m + 1) (.mk 3 name args body els) = true) (hc : cnS (.mk 3 name args body els) ≤ 40) :
    Calls Tryz.prog 47 #[.agg #[.int .i64 3, .string name, v2, v3, v4]] w (RetV (.string (jT (stW (.mk 3 name args body els)))) w) := by
  obtain ⟨-, hlen, hnmB, hvs, hels, hbody, hb3', hb4'⟩ := st_in hst
  clear hst
  obtain ⟨A2, p2, hf, _, _⟩ := h2.form
  subst hf
  obtain ⟨A3, p3, hf, _, _⟩ := h3.form
  subst hf
  obtain ⟨A4, p4, hf, _, _⟩ := h4.form
  subst hf
  have hll : args.length = 1 := hlen
  have hlen0 : 0 < args.length := by omega
  have hlen0' : (0 : Int) < (args.length : Int) := by omega
  obtain ⟨d', rfl⟩ := exS_pos h2 (by omega)
  have hb0 : Below w.heap.size w (w.alloc (.cells #[.int .i64 3, .string name, .slice A2 args.length p2, .slice A3 body.length p3, .slice A4 els.length p4] 76)) := (Below.refl _ _).alloc (Nat.le_refl _) _
  have R0 : Row (w.alloc (.cells #[.int .i64 3, .string name, .slice A2 args.length p2, .slice A3 body.length p3, .slice A4 els.length p4] 76)) w.heap.size 76 #[.int .i64 3, .string name, .slice A2 args.length p2, .slice A3 body.length p3, .slice A4 els.length p4] := Row.new w _ _
  obtain ⟨bkx, ox, xop, xn, xname, xkids, xv, hAx, _, hbBx, HLx, g0x, g1x, g2x, g3x, c0x, c1x, c2x, c3x⟩ := ex_get d' (h2.below hb0 hB) (i := 0) hlen0
  obtain ⟨Ax, px, hfx, _, _⟩ := g3x.form
  change _ = Value.slice Ax xkids.length px at hfx
  subst hfx
  subst hAx
  have x0 : (w.alloc (.cells #[.int .i64 3, .string name, .slice (some ⟨bkx, ox, none⟩) args.length p2, .slice A3 body.length p3, .slice A4 els.length p4] 76)).cell? ⟨bkx, ox, none⟩ = some (.int .i64 xop) := by simpa [Nat.add_assoc] using c0x
  have x1 : (w.alloc (.cells #[.int .i64 3, .string name, .slice (some ⟨bkx, ox, none⟩) args.length p2, .slice A3 body.length p3, .slice A4 els.length p4] 76)).cell? ⟨bkx, ox + 1, none⟩ = some (.int .i64 xn) := by simpa [Nat.add_assoc] using c1x
  have x2 : (w.alloc (.cells #[.int .i64 3, .string name, .slice (some ⟨bkx, ox, none⟩) args.length p2, .slice A3 body.length p3, .slice A4 els.length p4] 76)).cell? ⟨bkx, ox + 2, none⟩ = some (.string xname) := by simpa [Nat.add_assoc] using c2x
  have x3 : (w.alloc (.cells #[.int .i64 3, .string name, .slice (some ⟨bkx, ox, none⟩) args.length p2, .slice A3 body.length p3, .slice A4 els.length p4] 76)).cell? ⟨bkx, ox + 3, none⟩ = some (.slice Ax xkids.length px) := by simpa [Nat.add_assoc] using c3x
  clear c0x c1x c2x c3x
  obtain ⟨xe, hae, hvx⟩ := one_words hvs hlen (by omega)
  have hx0 : xe = .mk xop xn xname xkids := by have := HLx.out; simpa [hae] using this
  subst hx0
  obtain ⟨tx, htx⟩ : ∃ t, txE 6 1 (.mk xop xn xname xkids) = t := ⟨_, rfl⟩
  have hsx : tx.size ≤ 900 := htx ▸ tx_bound hvx
  have E : Hid (jT (stW (.mk 3 name args body els)) = ((⟨#[115, 97, 121, 32]⟩ ++ tx) ++ ⟨#[32, 59]⟩)) := by show _ = _; rw [hae, line3 hvx, htx]
  have HTx := Lib.hid htx
  have HFx := Lib.hid (val_form6 hvx)
  clear htx hvx hae hvs HLx
  have HLL := Lib.hid hll
  clear hll hlen
  have zs13 : (⟨#[115, 97, 121, 32]⟩ : ByteArray).size = 4 := rfl
  have zs14 : ((⟨#[115, 97, 121, 32]⟩ ++ tx) : ByteArray).size = 4 + tx.size := by rw [ByteArray.size_append, zs13]
  have zs15 : (⟨#[32, 59]⟩ : ByteArray).size = 2 := rfl
  have zs16 : (((⟨#[115, 97, 121, 32]⟩ ++ tx) ++ ⟨#[32, 59]⟩) : ByteArray).size = 4 + tx.size + 2 := by rw [ByteArray.size_append, zs14, zs15]
  go_enter Tryz.func47, Tryz.ntmps47
  go_wp2_with fail
  refine (spec_l2Text 6 1 d' xop xn xname xkids (.slice Ax xkids.length px) _ lo B (Nat.le_trans hB hb0.size) g0x g1x g2x g3x HFx.out.1 HFx.out.2 (by omega)).mono ?_
  rw [HTx.out]
  rintro e w1 ⟨rfl, b1⟩
  have hb1 : Below w.heap.size w w1 := hb0.trans (b1.mono hb0.size)
  have R1 := R0.below b1 R0.lt
  have y0 : w1.cell? ⟨w.heap.size, 0, none⟩ = some (.int .i64 3) := R1.cell 0
  have y1 : w1.cell? ⟨w.heap.size, 1, none⟩ = some (.string name) := R1.cell 1
  have y2 : w1.cell? ⟨w.heap.size, 2, none⟩ = some (.slice (some ⟨bkx, ox, none⟩) args.length p2) := R1.cell 2
  have y3 : w1.cell? ⟨w.heap.size, 3, none⟩ = some (.slice A3 body.length p3) := R1.cell 3
  have y4 : w1.cell? ⟨w.heap.size, 4, none⟩ = some (.slice A4 els.length p4) := R1.cell 4
  go_wp2_with fail
  go_ret
  exact RetV.mk (by rw [E.out] <;> rfl) rfl hb1
set_option maxRecDepth 100000 in
set_option maxHeartbeats 4000000 in
theorem line_of4 (m : Nat) (ih : BlockAt m) (d : Nat) (name : ByteArray) (args : List Ex) (v2 : Value) (body : List St) (v3 : Value) (els : List St) (v4 : Value) (w : World) (lo B : Nat) (hB : B ≤ w.heap.size) (hnm : name.size ≤ maxLen) (h2 : Sl false (exS false d) w lo B args v2) (h3 : Sl false (stS false d) w lo B body v3) (h4 : Sl false (stS false d) w lo B els v4) (hst : stB (m + 1) (.mk 4 name args body els) = true) (hc : cnS (.mk 4 name args body els) ≤ 40) :
    Calls Tryz.prog 47 #[.agg #[.int .i64 4, .string name, v2, v3, v4]] w (RetV (.string (jT (stW (.mk 4 name args body els)))) w) := by
  obtain ⟨-, hlen, hnmB, hvs, hels, hbody, hb3', hb4'⟩ := st_in hst
  clear hst
  obtain ⟨A2, p2, hf, _, _⟩ := h2.form
  subst hf
  obtain ⟨A3, p3, hf, _, _⟩ := h3.form
  subst hf
  obtain ⟨A4, p4, hf, _, _⟩ := h4.form
  subst hf
  have hll : args.length = 2 := hlen
  have hlen0 : 0 < args.length := by omega
  have hlen0' : (0 : Int) < (args.length : Int) := by omega
  have hlen1 : 1 < args.length := by omega
  have hlen1' : (1 : Int) < (args.length : Int) := by omega
  obtain ⟨d', rfl⟩ := exS_pos h2 (by omega)
  have hb0 : Below w.heap.size w (w.alloc (.cells #[.int .i64 4, .string name, .slice A2 args.length p2, .slice A3 body.length p3, .slice A4 els.length p4] 76)) := (Below.refl _ _).alloc (Nat.le_refl _) _
  have R0 : Row (w.alloc (.cells #[.int .i64 4, .string name, .slice A2 args.length p2, .slice A3 body.length p3, .slice A4 els.length p4] 76)) w.heap.size 76 #[.int .i64 4, .string name, .slice A2 args.length p2, .slice A3 body.length p3, .slice A4 els.length p4] := Row.new w _ _
  obtain ⟨bkx, ox, xop, xn, xname, xkids, xv, hAx, _, hbBx, HLx, g0x, g1x, g2x, g3x, c0x, c1x, c2x, c3x⟩ := ex_get d' (h2.below hb0 hB) (i := 0) hlen0
  obtain ⟨Ax, px, hfx, _, _⟩ := g3x.form
  change _ = Value.slice Ax xkids.length px at hfx
  subst hfx
  subst hAx
  have x0 : (w.alloc (.cells #[.int .i64 4, .string name, .slice (some ⟨bkx, ox, none⟩) args.length p2, .slice A3 body.length p3, .slice A4 els.length p4] 76)).cell? ⟨bkx, ox, none⟩ = some (.int .i64 xop) := by simpa [Nat.add_assoc] using c0x
  have x1 : (w.alloc (.cells #[.int .i64 4, .string name, .slice (some ⟨bkx, ox, none⟩) args.length p2, .slice A3 body.length p3, .slice A4 els.length p4] 76)).cell? ⟨bkx, ox + 1, none⟩ = some (.int .i64 xn) := by simpa [Nat.add_assoc] using c1x
  have x2 : (w.alloc (.cells #[.int .i64 4, .string name, .slice (some ⟨bkx, ox, none⟩) args.length p2, .slice A3 body.length p3, .slice A4 els.length p4] 76)).cell? ⟨bkx, ox + 2, none⟩ = some (.string xname) := by simpa [Nat.add_assoc] using c2x
  have x3 : (w.alloc (.cells #[.int .i64 4, .string name, .slice (some ⟨bkx, ox, none⟩) args.length p2, .slice A3 body.length p3, .slice A4 els.length p4] 76)).cell? ⟨bkx, ox + 3, none⟩ = some (.slice Ax xkids.length px) := by simpa [Nat.add_assoc] using c3x
  clear c0x c1x c2x c3x
  obtain ⟨xe, ye, hae, hvx, hvy⟩ := two_words hvs hlen
  have hx0 : xe = .mk xop xn xname xkids := by have := HLx.out; simpa [hae] using this
  subst hx0
  obtain ⟨tx, htx⟩ : ∃ t, txE 6 1 (.mk xop xn xname xkids) = t := ⟨_, rfl⟩
  have hsx : tx.size ≤ 900 := htx ▸ tx_bound hvx
  obtain ⟨bky, oy, yop, yn, yname, ykids, yv, hAy, _, hbBy, HLy, g0y, g1y, g2y, g3y, c0y, c1y, c2y, c3y⟩ := ex_get d' (h2.below hb0 hB) (i := 1) hlen1
  obtain ⟨Ay, py, hfy, _, _⟩ := g3y.form
  change _ = Value.slice Ay ykids.length py at hfy
  subst hfy
  injection hAy with hAy
  injection hAy with e1 e2
  subst e1 e2
  have yy0 : (w.alloc (.cells #[.int .i64 4, .string name, .slice (some ⟨bkx, ox, none⟩) args.length p2, .slice A3 body.length p3, .slice A4 els.length p4] 76)).cell? ⟨bkx, ox + 4, none⟩ = some (.int .i64 yop) := by simpa [Nat.add_assoc] using c0y
  have yy1 : (w.alloc (.cells #[.int .i64 4, .string name, .slice (some ⟨bkx, ox, none⟩) args.length p2, .slice A3 body.length p3, .slice A4 els.length p4] 76)).cell? ⟨bkx, ox + 5, none⟩ = some (.int .i64 yn) := by simpa [Nat.add_assoc] using c1y
  have yy2 : (w.alloc (.cells #[.int .i64 4, .string name, .slice (some ⟨bkx, ox, none⟩) args.length p2, .slice A3 body.length p3, .slice A4 els.length p4] 76)).cell? ⟨bkx, ox + 6, none⟩ = some (.string yname) := by simpa [Nat.add_assoc] using c2y
  have yy3 : (w.alloc (.cells #[.int .i64 4, .string name, .slice (some ⟨bkx, ox, none⟩) args.length p2, .slice A3 body.length p3, .slice A4 els.length p4] 76)).cell? ⟨bkx, ox + 7, none⟩ = some (.slice Ay ykids.length py) := by simpa [Nat.add_assoc] using c3y
  clear c0y c1y c2y c3y
  have hy0 : ye = .mk yop yn yname ykids := by have := HLy.out; simpa [hae] using this
  subst hy0
  obtain ⟨ty, hty⟩ : ∃ t, txE 6 1 (.mk yop yn yname ykids) = t := ⟨_, rfl⟩
  have hsy : ty.size ≤ 900 := hty ▸ tx_bound hvy
  have E : Hid (jT (stW (.mk 4 name args body els)) = ((((⟨#[112, 117, 116, 32]⟩ ++ tx) ++ ⟨#[32, 44, 32]⟩) ++ ty) ++ ⟨#[32, 59]⟩)) := by show _ = _; rw [hae, line4 hvx hvy, htx, hty]
  have HTx := Lib.hid htx
  have HFx := Lib.hid (val_form6 hvx)
  have HTy := Lib.hid hty
  have HFy := Lib.hid (val_form6 hvy)
  clear htx hvx hae hvs HLx hty hvy HLy
  have HLL := Lib.hid hll
  clear hll hlen
  have zs17 : (⟨#[112, 117, 116, 32]⟩ : ByteArray).size = 4 := rfl
  have zs18 : ((⟨#[112, 117, 116, 32]⟩ ++ tx) : ByteArray).size = 4 + tx.size := by rw [ByteArray.size_append, zs17]
  have zs19 : (⟨#[32, 44, 32]⟩ : ByteArray).size = 3 := rfl
  have zs20 : (((⟨#[112, 117, 116, 32]⟩ ++ tx) ++ ⟨#[32, 44, 32]⟩) : ByteArray).size = 4 + tx.size + 3 := by rw [ByteArray.size_append, zs18, zs19]
  have zs21 : ((((⟨#[112, 117, 116, 32]⟩ ++ tx) ++ ⟨#[32, 44, 32]⟩) ++ ty) : ByteArray).size = 4 + tx.size + 3 + ty.size := by rw [ByteArray.size_append, zs20]
  have zs22 : (⟨#[32, 59]⟩ : ByteArray).size = 2 := rfl
  have zs23 : (((((⟨#[112, 117, 116, 32]⟩ ++ tx) ++ ⟨#[32, 44, 32]⟩) ++ ty) ++ ⟨#[32, 59]⟩) : ByteArray).size = 4 + tx.size + 3 + ty.size + 2 := by rw [ByteArray.size_append, zs21, zs22]
  go_enter Tryz.func47, Tryz.ntmps47
  go_wp2_with fail
  refine (spec_l2Text 6 1 d' xop xn xname xkids (.slice Ax xkids.length px) _ lo B (Nat.le_trans hB hb0.size) g0x g1x g2x g3x HFx.out.1 HFx.out.2 (by omega)).mono ?_
  rw [HTx.out]
  rintro e w1 ⟨rfl, b1⟩
  have hb1 : Below w.heap.size w w1 := hb0.trans (b1.mono hb0.size)
  have R1 := R0.below b1 R0.lt
  have y0 : w1.cell? ⟨w.heap.size, 0, none⟩ = some (.int .i64 4) := R1.cell 0
  have y1 : w1.cell? ⟨w.heap.size, 1, none⟩ = some (.string name) := R1.cell 1
  have y2 : w1.cell? ⟨w.heap.size, 2, none⟩ = some (.slice (some ⟨bkx, ox, none⟩) args.length p2) := R1.cell 2
  have y3 : w1.cell? ⟨w.heap.size, 3, none⟩ = some (.slice A3 body.length p3) := R1.cell 3
  have y4 : w1.cell? ⟨w.heap.size, 4, none⟩ = some (.slice A4 els.length p4) := R1.cell 4
  have d0 := (b1.cell (p := ⟨bkx, ox + 4, none⟩) (Nat.lt_of_lt_of_le hbBy (Nat.le_trans hB hb0.size))).trans yy0
  have d1 := (b1.cell (p := ⟨bkx, ox + 5, none⟩) (Nat.lt_of_lt_of_le hbBy (Nat.le_trans hB hb0.size))).trans yy1
  have d2 := (b1.cell (p := ⟨bkx, ox + 6, none⟩) (Nat.lt_of_lt_of_le hbBy (Nat.le_trans hB hb0.size))).trans yy2
  have d3 := (b1.cell (p := ⟨bkx, ox + 7, none⟩) (Nat.lt_of_lt_of_le hbBy (Nat.le_trans hB hb0.size))).trans yy3
  go_wp2_with fail
  refine (spec_l2Text 6 1 d' yop yn yname ykids (.slice Ay ykids.length py) _ lo B (Nat.le_trans hB hb1.size) g0y g1y g2y (g3y.below b1 (Nat.le_trans hB hb0.size)) HFy.out.1 HFy.out.2 (by omega)).mono ?_
  rw [HTy.out]
  rintro e w2 ⟨rfl, b2⟩
  have hb2 : Below w.heap.size w w2 := hb1.trans (b2.mono hb1.size)
  go_wp2_with fail
  go_ret
  exact RetV.mk (by rw [E.out] <;> rfl) rfl hb2
set_option maxRecDepth 100000 in
set_option maxHeartbeats 4000000 in
theorem line_of5 (m : Nat) (ih : BlockAt m) (d : Nat) (name : ByteArray) (args : List Ex) (v2 : Value) (body : List St) (v3 : Value) (els : List St) (v4 : Value) (w : World) (lo B : Nat) (hB : B ≤ w.heap.size) (hnm : name.size ≤ maxLen) (h2 : Sl false (exS false d) w lo B args v2) (h3 : Sl false (stS false d) w lo B body v3) (h4 : Sl false (stS false d) w lo B els v4) (hst : stB (m + 1) (.mk 5 name args body els) = true) (hc : cnS (.mk 5 name args body els) ≤ 40) :
    Calls Tryz.prog 47 #[.agg #[.int .i64 5, .string name, v2, v3, v4]] w (RetV (.string (jT (stW (.mk 5 name args body els)))) w) := by
  obtain ⟨-, hlen, hnmB, hvs, hels, hbody, hb3', hb4'⟩ := st_in hst
  clear hst
  obtain ⟨A2, p2, hf, _, _⟩ := h2.form
  subst hf
  obtain ⟨A3, p3, hf, _, _⟩ := h3.form
  subst hf
  obtain ⟨A4, p4, hf, _, _⟩ := h4.form
  subst hf
  have hll : args.length = 1 := hlen
  have hlen0 : 0 < args.length := by omega
  have hlen0' : (0 : Int) < (args.length : Int) := by omega
  obtain ⟨d', rfl⟩ := exS_pos h2 (by omega)
  have hb0 : Below w.heap.size w (w.alloc (.cells #[.int .i64 5, .string name, .slice A2 args.length p2, .slice A3 body.length p3, .slice A4 els.length p4] 76)) := (Below.refl _ _).alloc (Nat.le_refl _) _
  have R0 : Row (w.alloc (.cells #[.int .i64 5, .string name, .slice A2 args.length p2, .slice A3 body.length p3, .slice A4 els.length p4] 76)) w.heap.size 76 #[.int .i64 5, .string name, .slice A2 args.length p2, .slice A3 body.length p3, .slice A4 els.length p4] := Row.new w _ _
  obtain ⟨bkx, ox, xop, xn, xname, xkids, xv, hAx, _, hbBx, HLx, g0x, g1x, g2x, g3x, c0x, c1x, c2x, c3x⟩ := ex_get d' (h2.below hb0 hB) (i := 0) hlen0
  obtain ⟨Ax, px, hfx, _, _⟩ := g3x.form
  change _ = Value.slice Ax xkids.length px at hfx
  subst hfx
  subst hAx
  have x0 : (w.alloc (.cells #[.int .i64 5, .string name, .slice (some ⟨bkx, ox, none⟩) args.length p2, .slice A3 body.length p3, .slice A4 els.length p4] 76)).cell? ⟨bkx, ox, none⟩ = some (.int .i64 xop) := by simpa [Nat.add_assoc] using c0x
  have x1 : (w.alloc (.cells #[.int .i64 5, .string name, .slice (some ⟨bkx, ox, none⟩) args.length p2, .slice A3 body.length p3, .slice A4 els.length p4] 76)).cell? ⟨bkx, ox + 1, none⟩ = some (.int .i64 xn) := by simpa [Nat.add_assoc] using c1x
  have x2 : (w.alloc (.cells #[.int .i64 5, .string name, .slice (some ⟨bkx, ox, none⟩) args.length p2, .slice A3 body.length p3, .slice A4 els.length p4] 76)).cell? ⟨bkx, ox + 2, none⟩ = some (.string xname) := by simpa [Nat.add_assoc] using c2x
  have x3 : (w.alloc (.cells #[.int .i64 5, .string name, .slice (some ⟨bkx, ox, none⟩) args.length p2, .slice A3 body.length p3, .slice A4 els.length p4] 76)).cell? ⟨bkx, ox + 3, none⟩ = some (.slice Ax xkids.length px) := by simpa [Nat.add_assoc] using c3x
  clear c0x c1x c2x c3x
  obtain ⟨xe, hae, hvx⟩ := one_words hvs hlen (by omega)
  have hx0 : xe = .mk xop xn xname xkids := by have := HLx.out; simpa [hae] using this
  subst hx0
  obtain ⟨tx, htx⟩ : ∃ t, txE 6 1 (.mk xop xn xname xkids) = t := ⟨_, rfl⟩
  have hsx : tx.size ≤ 900 := htx ▸ tx_bound hvx
  obtain ⟨tb, htb⟩ : ∃ t, jT (blW body) = t := ⟨_, rfl⟩
  have hcb : cnL body ≤ 40 := by rw [cnS] at hc; omega
  have hsb : tb.size ≤ 90000 := htb ▸ bl_bound hb3' hcb
  obtain ⟨te, hte⟩ : ∃ t, jT (blW els) = t := ⟨_, rfl⟩
  have hce : cnL els ≤ 40 := by rw [cnS] at hc; omega
  have hse : te.size ≤ 90000 := hte ▸ bl_bound hb4' hce
  have E5 : Hid (els.length = 0 → jT (stW (.mk 5 name args body els)) = (((⟨#[105, 102, 32]⟩ ++ tx) ++ ⟨#[32]⟩) ++ tb)) := fun h => by rw [hae, line5 hvx h, htx, htb]
  have E5e : Hid (¬ els.length = 0 → jT (stW (.mk 5 name args body els)) = ((((⟨#[105, 102, 32]⟩ ++ tx) ++ ⟨#[32]⟩) ++ tb) ++ ⟨#[32, 101, 108, 115, 101, 32]⟩) ++ te) := fun h => by rw [hae, line5e hvx h, htx, htb, hte]
  have HTx := Lib.hid htx
  have HFx := Lib.hid (val_form6 hvx)
  have HTb := Lib.hid htb
  have HCb := Lib.hid hcb
  have HTe := Lib.hid hte
  have HCe := Lib.hid hce
  clear htx hvx hae hvs HLx htb hcb hte hce
  have HLL := Lib.hid hll
  clear hll hlen
  have zs24 : (⟨#[105, 102, 32]⟩ : ByteArray).size = 3 := rfl
  have zs25 : ((⟨#[105, 102, 32]⟩ ++ tx) : ByteArray).size = 3 + tx.size := by rw [ByteArray.size_append, zs24]
  have zs26 : (⟨#[32]⟩ : ByteArray).size = 1 := rfl
  have zs27 : (((⟨#[105, 102, 32]⟩ ++ tx) ++ ⟨#[32]⟩) : ByteArray).size = 3 + tx.size + 1 := by rw [ByteArray.size_append, zs25, zs26]
  have zs28 : ((((⟨#[105, 102, 32]⟩ ++ tx) ++ ⟨#[32]⟩) ++ tb) : ByteArray).size = 3 + tx.size + 1 + tb.size := by rw [ByteArray.size_append, zs27]
  go_enter Tryz.func47, Tryz.ntmps47
  go_wp2_with fail
  refine (spec_l2Text 6 1 d' xop xn xname xkids (.slice Ax xkids.length px) _ lo B (Nat.le_trans hB hb0.size) g0x g1x g2x g3x HFx.out.1 HFx.out.2 (by omega)).mono ?_
  rw [HTx.out]
  rintro e w1 ⟨rfl, b1⟩
  have hb1 : Below w.heap.size w w1 := hb0.trans (b1.mono hb0.size)
  have R1 := R0.below b1 R0.lt
  have y0 : w1.cell? ⟨w.heap.size, 0, none⟩ = some (.int .i64 5) := R1.cell 0
  have y1 : w1.cell? ⟨w.heap.size, 1, none⟩ = some (.string name) := R1.cell 1
  have y2 : w1.cell? ⟨w.heap.size, 2, none⟩ = some (.slice (some ⟨bkx, ox, none⟩) args.length p2) := R1.cell 2
  have y3 : w1.cell? ⟨w.heap.size, 3, none⟩ = some (.slice A3 body.length p3) := R1.cell 3
  have y4 : w1.cell? ⟨w.heap.size, 4, none⟩ = some (.slice A4 els.length p4) := R1.cell 4
  go_wp2_with fail
  refine (ih (d' + 1) body _ _ lo B (Nat.le_trans hB hb1.size) (h3.below hb1 hB) hb3' HCb.out).mono ?_
  rw [HTb.out]
  rintro e w2 ⟨rfl, b2⟩
  have hb2 : Below w.heap.size w w2 := hb1.trans (b2.mono hb1.size)
  have R2 := R1.below b2 R1.lt
  clear y0 y1 y2 y3 y4
  have y0 : w2.cell? ⟨w.heap.size, 0, none⟩ = some (.int .i64 5) := R2.cell 0
  have y1 : w2.cell? ⟨w.heap.size, 1, none⟩ = some (.string name) := R2.cell 1
  have y2 : w2.cell? ⟨w.heap.size, 2, none⟩ = some (.slice (some ⟨bkx, ox, none⟩) args.length p2) := R2.cell 2
  have y3 : w2.cell? ⟨w.heap.size, 3, none⟩ = some (.slice A3 body.length p3) := R2.cell 3
  have y4 : w2.cell? ⟨w.heap.size, 4, none⟩ = some (.slice A4 els.length p4) := R2.cell 4
  by_cases he0 : els.length = 0
  · have qe : decide ((0 : Int) < (els.length : Int)) = false := decide_eq_false (by omega)
    have E := Lib.hid (E5.out he0)
    have he1 : ¬ 0 < els.length := by omega
    clear he0
    go_wp2_with fail
    go_ret
    exact RetV.mk (by rw [E.out] <;> rfl) rfl hb2
  · have qe : (0 : Int) < (els.length : Int) := by omega
    have E := Lib.hid (E5e.out he0)
    have he1 : 0 < els.length := by omega
    clear he0
    have zs29 : (⟨#[105, 102, 32]⟩ : ByteArray).size = 3 := rfl
    have zs30 : ((⟨#[105, 102, 32]⟩ ++ tx) : ByteArray).size = 3 + tx.size := by rw [ByteArray.size_append, zs29]
    have zs31 : (⟨#[32]⟩ : ByteArray).size = 1 := rfl
    have zs32 : (((⟨#[105, 102, 32]⟩ ++ tx) ++ ⟨#[32]⟩) : ByteArray).size = 3 + tx.size + 1 := by rw [ByteArray.size_append, zs30, zs31]
    have zs33 : ((((⟨#[105, 102, 32]⟩ ++ tx) ++ ⟨#[32]⟩) ++ tb) : ByteArray).size = 3 + tx.size + 1 + tb.size := by rw [ByteArray.size_append, zs32]
    have zs34 : (⟨#[32, 101, 108, 115, 101, 32]⟩ : ByteArray).size = 6 := rfl
    have zs35 : (((((⟨#[105, 102, 32]⟩ ++ tx) ++ ⟨#[32]⟩) ++ tb) ++ ⟨#[32, 101, 108, 115, 101, 32]⟩) : ByteArray).size = 3 + tx.size + 1 + tb.size + 6 := by rw [ByteArray.size_append, zs33, zs34]
    have zs36 : ((((((⟨#[105, 102, 32]⟩ ++ tx) ++ ⟨#[32]⟩) ++ tb) ++ ⟨#[32, 101, 108, 115, 101, 32]⟩) ++ te) : ByteArray).size = 3 + tx.size + 1 + tb.size + 6 + te.size := by rw [ByteArray.size_append, zs35]
    go_wp2_with fail
    refine (ih (d' + 1) els _ _ lo B (Nat.le_trans hB hb2.size) (h4.below hb2 hB) hb4' HCe.out).mono ?_
    rw [HTe.out]
    rintro e w3 ⟨rfl, b3⟩
    have hb3 : Below w.heap.size w w3 := hb2.trans (b3.mono hb2.size)
    go_wp2_with fail
    go_ret
    exact RetV.mk (by rw [E.out] <;> rfl) rfl hb3
set_option maxRecDepth 100000 in
set_option maxHeartbeats 4000000 in
theorem line_of6 (m : Nat) (ih : BlockAt m) (d : Nat) (name : ByteArray) (args : List Ex) (v2 : Value) (body : List St) (v3 : Value) (els : List St) (v4 : Value) (w : World) (lo B : Nat) (hB : B ≤ w.heap.size) (hnm : name.size ≤ maxLen) (h2 : Sl false (exS false d) w lo B args v2) (h3 : Sl false (stS false d) w lo B body v3) (h4 : Sl false (stS false d) w lo B els v4) (hst : stB (m + 1) (.mk 6 name args body els) = true) (hc : cnS (.mk 6 name args body els) ≤ 40) :
    Calls Tryz.prog 47 #[.agg #[.int .i64 6, .string name, v2, v3, v4]] w (RetV (.string (jT (stW (.mk 6 name args body els)))) w) := by
  obtain ⟨-, hlen, hnmB, hvs, hels, hbody, hb3', hb4'⟩ := st_in hst
  clear hst
  obtain ⟨A2, p2, hf, _, _⟩ := h2.form
  subst hf
  obtain ⟨A3, p3, hf, _, _⟩ := h3.form
  subst hf
  obtain ⟨A4, p4, hf, _, _⟩ := h4.form
  subst hf
  have hll : args.length = 1 := hlen
  have hlen0 : 0 < args.length := by omega
  have hlen0' : (0 : Int) < (args.length : Int) := by omega
  obtain ⟨d', rfl⟩ := exS_pos h2 (by omega)
  have hb0 : Below w.heap.size w (w.alloc (.cells #[.int .i64 6, .string name, .slice A2 args.length p2, .slice A3 body.length p3, .slice A4 els.length p4] 76)) := (Below.refl _ _).alloc (Nat.le_refl _) _
  have R0 : Row (w.alloc (.cells #[.int .i64 6, .string name, .slice A2 args.length p2, .slice A3 body.length p3, .slice A4 els.length p4] 76)) w.heap.size 76 #[.int .i64 6, .string name, .slice A2 args.length p2, .slice A3 body.length p3, .slice A4 els.length p4] := Row.new w _ _
  obtain ⟨bkx, ox, xop, xn, xname, xkids, xv, hAx, _, hbBx, HLx, g0x, g1x, g2x, g3x, c0x, c1x, c2x, c3x⟩ := ex_get d' (h2.below hb0 hB) (i := 0) hlen0
  obtain ⟨Ax, px, hfx, _, _⟩ := g3x.form
  change _ = Value.slice Ax xkids.length px at hfx
  subst hfx
  subst hAx
  have x0 : (w.alloc (.cells #[.int .i64 6, .string name, .slice (some ⟨bkx, ox, none⟩) args.length p2, .slice A3 body.length p3, .slice A4 els.length p4] 76)).cell? ⟨bkx, ox, none⟩ = some (.int .i64 xop) := by simpa [Nat.add_assoc] using c0x
  have x1 : (w.alloc (.cells #[.int .i64 6, .string name, .slice (some ⟨bkx, ox, none⟩) args.length p2, .slice A3 body.length p3, .slice A4 els.length p4] 76)).cell? ⟨bkx, ox + 1, none⟩ = some (.int .i64 xn) := by simpa [Nat.add_assoc] using c1x
  have x2 : (w.alloc (.cells #[.int .i64 6, .string name, .slice (some ⟨bkx, ox, none⟩) args.length p2, .slice A3 body.length p3, .slice A4 els.length p4] 76)).cell? ⟨bkx, ox + 2, none⟩ = some (.string xname) := by simpa [Nat.add_assoc] using c2x
  have x3 : (w.alloc (.cells #[.int .i64 6, .string name, .slice (some ⟨bkx, ox, none⟩) args.length p2, .slice A3 body.length p3, .slice A4 els.length p4] 76)).cell? ⟨bkx, ox + 3, none⟩ = some (.slice Ax xkids.length px) := by simpa [Nat.add_assoc] using c3x
  clear c0x c1x c2x c3x
  obtain ⟨xe, hae, hvx⟩ := one_words hvs hlen (by omega)
  have hx0 : xe = .mk xop xn xname xkids := by have := HLx.out; simpa [hae] using this
  subst hx0
  obtain ⟨tx, htx⟩ : ∃ t, txE 6 1 (.mk xop xn xname xkids) = t := ⟨_, rfl⟩
  have hsx : tx.size ≤ 900 := htx ▸ tx_bound hvx
  obtain ⟨tb, htb⟩ : ∃ t, jT (blW body) = t := ⟨_, rfl⟩
  have hcb : cnL body ≤ 40 := by rw [cnS] at hc; omega
  have hsb : tb.size ≤ 90000 := htb ▸ bl_bound hb3' hcb
  have E : Hid (jT (stW (.mk 6 name args body els)) = (((⟨#[108, 111, 111, 112, 32]⟩ ++ tx) ++ ⟨#[32]⟩) ++ tb)) := by show _ = _; rw [hae, line6 hvx (by omega), htx, htb]
  have HTx := Lib.hid htx
  have HFx := Lib.hid (val_form6 hvx)
  have HTb := Lib.hid htb
  have HCb := Lib.hid hcb
  clear htx hvx hae hvs HLx htb hcb
  have HLL := Lib.hid hll
  clear hll hlen
  have zs37 : (⟨#[108, 111, 111, 112, 32]⟩ : ByteArray).size = 5 := rfl
  have zs38 : ((⟨#[108, 111, 111, 112, 32]⟩ ++ tx) : ByteArray).size = 5 + tx.size := by rw [ByteArray.size_append, zs37]
  have zs39 : (⟨#[32]⟩ : ByteArray).size = 1 := rfl
  have zs40 : (((⟨#[108, 111, 111, 112, 32]⟩ ++ tx) ++ ⟨#[32]⟩) : ByteArray).size = 5 + tx.size + 1 := by rw [ByteArray.size_append, zs38, zs39]
  have zs41 : ((((⟨#[108, 111, 111, 112, 32]⟩ ++ tx) ++ ⟨#[32]⟩) ++ tb) : ByteArray).size = 5 + tx.size + 1 + tb.size := by rw [ByteArray.size_append, zs40]
  go_enter Tryz.func47, Tryz.ntmps47
  go_wp2_with fail
  refine (spec_l2Text 6 1 d' xop xn xname xkids (.slice Ax xkids.length px) _ lo B (Nat.le_trans hB hb0.size) g0x g1x g2x g3x HFx.out.1 HFx.out.2 (by omega)).mono ?_
  rw [HTx.out]
  rintro e w1 ⟨rfl, b1⟩
  have hb1 : Below w.heap.size w w1 := hb0.trans (b1.mono hb0.size)
  have R1 := R0.below b1 R0.lt
  have y0 : w1.cell? ⟨w.heap.size, 0, none⟩ = some (.int .i64 6) := R1.cell 0
  have y1 : w1.cell? ⟨w.heap.size, 1, none⟩ = some (.string name) := R1.cell 1
  have y2 : w1.cell? ⟨w.heap.size, 2, none⟩ = some (.slice (some ⟨bkx, ox, none⟩) args.length p2) := R1.cell 2
  have y3 : w1.cell? ⟨w.heap.size, 3, none⟩ = some (.slice A3 body.length p3) := R1.cell 3
  have y4 : w1.cell? ⟨w.heap.size, 4, none⟩ = some (.slice A4 els.length p4) := R1.cell 4
  go_wp2_with fail
  refine (ih (d' + 1) body _ _ lo B (Nat.le_trans hB hb1.size) (h3.below hb1 hB) hb3' HCb.out).mono ?_
  rw [HTb.out]
  rintro e w2 ⟨rfl, b2⟩
  have hb2 : Below w.heap.size w w2 := hb1.trans (b2.mono hb1.size)
  have R2 := R1.below b2 R1.lt
  go_wp2_with fail
  go_ret
  exact RetV.mk (by rw [E.out] <;> rfl) rfl hb2
set_option maxRecDepth 100000 in
set_option maxHeartbeats 4000000 in
theorem line_of7 (m : Nat) (ih : BlockAt m) (d : Nat) (name : ByteArray) (args : List Ex) (v2 : Value) (body : List St) (v3 : Value) (els : List St) (v4 : Value) (w : World) (lo B : Nat) (hB : B ≤ w.heap.size) (hnm : name.size ≤ maxLen) (h2 : Sl false (exS false d) w lo B args v2) (h3 : Sl false (stS false d) w lo B body v3) (h4 : Sl false (stS false d) w lo B els v4) (hst : stB (m + 1) (.mk 7 name args body els) = true) (hc : cnS (.mk 7 name args body els) ≤ 40) :
    Calls Tryz.prog 47 #[.agg #[.int .i64 7, .string name, v2, v3, v4]] w (RetV (.string (jT (stW (.mk 7 name args body els)))) w) := by
  obtain ⟨-, hlen, hnmB, hvs, hels, hbody, hb3', hb4'⟩ := st_in hst
  clear hst
  obtain ⟨A2, p2, hf, _, _⟩ := h2.form
  subst hf
  obtain ⟨A3, p3, hf, _, _⟩ := h3.form
  subst hf
  obtain ⟨A4, p4, hf, _, _⟩ := h4.form
  subst hf
  have hll : args.length = 1 := hlen
  have hlen0 : 0 < args.length := by omega
  have hlen0' : (0 : Int) < (args.length : Int) := by omega
  obtain ⟨d', rfl⟩ := exS_pos h2 (by omega)
  have hb0 : Below w.heap.size w (w.alloc (.cells #[.int .i64 7, .string name, .slice A2 args.length p2, .slice A3 body.length p3, .slice A4 els.length p4] 76)) := (Below.refl _ _).alloc (Nat.le_refl _) _
  have R0 : Row (w.alloc (.cells #[.int .i64 7, .string name, .slice A2 args.length p2, .slice A3 body.length p3, .slice A4 els.length p4] 76)) w.heap.size 76 #[.int .i64 7, .string name, .slice A2 args.length p2, .slice A3 body.length p3, .slice A4 els.length p4] := Row.new w _ _
  obtain ⟨bkx, ox, xop, xn, xname, xkids, xv, hAx, _, hbBx, HLx, g0x, g1x, g2x, g3x, c0x, c1x, c2x, c3x⟩ := ex_get d' (h2.below hb0 hB) (i := 0) hlen0
  obtain ⟨Ax, px, hfx, _, _⟩ := g3x.form
  change _ = Value.slice Ax xkids.length px at hfx
  subst hfx
  subst hAx
  have x0 : (w.alloc (.cells #[.int .i64 7, .string name, .slice (some ⟨bkx, ox, none⟩) args.length p2, .slice A3 body.length p3, .slice A4 els.length p4] 76)).cell? ⟨bkx, ox, none⟩ = some (.int .i64 xop) := by simpa [Nat.add_assoc] using c0x
  have x1 : (w.alloc (.cells #[.int .i64 7, .string name, .slice (some ⟨bkx, ox, none⟩) args.length p2, .slice A3 body.length p3, .slice A4 els.length p4] 76)).cell? ⟨bkx, ox + 1, none⟩ = some (.int .i64 xn) := by simpa [Nat.add_assoc] using c1x
  have x2 : (w.alloc (.cells #[.int .i64 7, .string name, .slice (some ⟨bkx, ox, none⟩) args.length p2, .slice A3 body.length p3, .slice A4 els.length p4] 76)).cell? ⟨bkx, ox + 2, none⟩ = some (.string xname) := by simpa [Nat.add_assoc] using c2x
  have x3 : (w.alloc (.cells #[.int .i64 7, .string name, .slice (some ⟨bkx, ox, none⟩) args.length p2, .slice A3 body.length p3, .slice A4 els.length p4] 76)).cell? ⟨bkx, ox + 3, none⟩ = some (.slice Ax xkids.length px) := by simpa [Nat.add_assoc] using c3x
  clear c0x c1x c2x c3x
  obtain ⟨xe, hae, hvx⟩ := one_words hvs hlen (by omega)
  have hx0 : xe = .mk xop xn xname xkids := by have := HLx.out; simpa [hae] using this
  subst hx0
  obtain ⟨tx, htx⟩ : ∃ t, txE 6 1 (.mk xop xn xname xkids) = t := ⟨_, rfl⟩
  have hsx : tx.size ≤ 900 := htx ▸ tx_bound hvx
  have E : Hid (jT (stW (.mk 7 name args body els)) = ((⟨#[98, 97, 99, 107, 32]⟩ ++ tx) ++ ⟨#[32, 59]⟩)) := by show _ = _; rw [hae, line7 hvx, htx]
  have HTx := Lib.hid htx
  have HFx := Lib.hid (val_form6 hvx)
  clear htx hvx hae hvs HLx
  have HLL := Lib.hid hll
  clear hll hlen
  have zs42 : (⟨#[98, 97, 99, 107, 32]⟩ : ByteArray).size = 5 := rfl
  have zs43 : ((⟨#[98, 97, 99, 107, 32]⟩ ++ tx) : ByteArray).size = 5 + tx.size := by rw [ByteArray.size_append, zs42]
  have zs44 : (⟨#[32, 59]⟩ : ByteArray).size = 2 := rfl
  have zs45 : (((⟨#[98, 97, 99, 107, 32]⟩ ++ tx) ++ ⟨#[32, 59]⟩) : ByteArray).size = 5 + tx.size + 2 := by rw [ByteArray.size_append, zs43, zs44]
  go_enter Tryz.func47, Tryz.ntmps47
  go_wp2_with fail
  refine (spec_l2Text 6 1 d' xop xn xname xkids (.slice Ax xkids.length px) _ lo B (Nat.le_trans hB hb0.size) g0x g1x g2x g3x HFx.out.1 HFx.out.2 (by omega)).mono ?_
  rw [HTx.out]
  rintro e w1 ⟨rfl, b1⟩
  have hb1 : Below w.heap.size w w1 := hb0.trans (b1.mono hb0.size)
  have R1 := R0.below b1 R0.lt
  have y0 : w1.cell? ⟨w.heap.size, 0, none⟩ = some (.int .i64 7) := R1.cell 0
  have y1 : w1.cell? ⟨w.heap.size, 1, none⟩ = some (.string name) := R1.cell 1
  have y2 : w1.cell? ⟨w.heap.size, 2, none⟩ = some (.slice (some ⟨bkx, ox, none⟩) args.length p2) := R1.cell 2
  have y3 : w1.cell? ⟨w.heap.size, 3, none⟩ = some (.slice A3 body.length p3) := R1.cell 3
  have y4 : w1.cell? ⟨w.heap.size, 4, none⟩ = some (.slice A4 els.length p4) := R1.cell 4
  go_wp2_with fail
  go_ret
  exact RetV.mk (by rw [E.out] <;> rfl) rfl hb1
set_option maxRecDepth 100000 in
set_option maxHeartbeats 4000000 in
theorem line_of8 (m : Nat) (ih : BlockAt m) (d : Nat) (name : ByteArray) (args : List Ex) (v2 : Value) (body : List St) (v3 : Value) (els : List St) (v4 : Value) (w : World) (lo B : Nat) (hB : B ≤ w.heap.size) (hnm : name.size ≤ maxLen) (h2 : Sl false (exS false d) w lo B args v2) (h3 : Sl false (stS false d) w lo B body v3) (h4 : Sl false (stS false d) w lo B els v4) (hst : stB (m + 1) (.mk 8 name args body els) = true) (hc : cnS (.mk 8 name args body els) ≤ 40) :
    Calls Tryz.prog 47 #[.agg #[.int .i64 8, .string name, v2, v3, v4]] w (RetV (.string (jT (stW (.mk 8 name args body els)))) w) := by
  obtain ⟨-, hlen, hnmB, hvs, hels, hbody, hb3', hb4'⟩ := st_in hst
  clear hst
  obtain ⟨A2, p2, hf, _, _⟩ := h2.form
  subst hf
  obtain ⟨A3, p3, hf, _, _⟩ := h3.form
  subst hf
  obtain ⟨A4, p4, hf, _, _⟩ := h4.form
  subst hf
  have hll : args.length = 1 := hlen
  have hlen0 : 0 < args.length := by omega
  have hlen0' : (0 : Int) < (args.length : Int) := by omega
  obtain ⟨d', rfl⟩ := exS_pos h2 (by omega)
  have hb0 : Below w.heap.size w (w.alloc (.cells #[.int .i64 8, .string name, .slice A2 args.length p2, .slice A3 body.length p3, .slice A4 els.length p4] 76)) := (Below.refl _ _).alloc (Nat.le_refl _) _
  have R0 : Row (w.alloc (.cells #[.int .i64 8, .string name, .slice A2 args.length p2, .slice A3 body.length p3, .slice A4 els.length p4] 76)) w.heap.size 76 #[.int .i64 8, .string name, .slice A2 args.length p2, .slice A3 body.length p3, .slice A4 els.length p4] := Row.new w _ _
  obtain ⟨bkx, ox, xop, xn, xname, xkids, xv, hAx, _, hbBx, HLx, g0x, g1x, g2x, g3x, c0x, c1x, c2x, c3x⟩ := ex_get d' (h2.below hb0 hB) (i := 0) hlen0
  obtain ⟨Ax, px, hfx, _, _⟩ := g3x.form
  change _ = Value.slice Ax xkids.length px at hfx
  subst hfx
  subst hAx
  have x0 : (w.alloc (.cells #[.int .i64 8, .string name, .slice (some ⟨bkx, ox, none⟩) args.length p2, .slice A3 body.length p3, .slice A4 els.length p4] 76)).cell? ⟨bkx, ox, none⟩ = some (.int .i64 xop) := by simpa [Nat.add_assoc] using c0x
  have x1 : (w.alloc (.cells #[.int .i64 8, .string name, .slice (some ⟨bkx, ox, none⟩) args.length p2, .slice A3 body.length p3, .slice A4 els.length p4] 76)).cell? ⟨bkx, ox + 1, none⟩ = some (.int .i64 xn) := by simpa [Nat.add_assoc] using c1x
  have x2 : (w.alloc (.cells #[.int .i64 8, .string name, .slice (some ⟨bkx, ox, none⟩) args.length p2, .slice A3 body.length p3, .slice A4 els.length p4] 76)).cell? ⟨bkx, ox + 2, none⟩ = some (.string xname) := by simpa [Nat.add_assoc] using c2x
  have x3 : (w.alloc (.cells #[.int .i64 8, .string name, .slice (some ⟨bkx, ox, none⟩) args.length p2, .slice A3 body.length p3, .slice A4 els.length p4] 76)).cell? ⟨bkx, ox + 3, none⟩ = some (.slice Ax xkids.length px) := by simpa [Nat.add_assoc] using c3x
  clear c0x c1x c2x c3x
  obtain ⟨xe, hae, hvx⟩ := one_words hvs hlen (by omega)
  have hx0 : xe = .mk xop xn xname xkids := by have := HLx.out; simpa [hae] using this
  subst hx0
  obtain ⟨tx, htx⟩ : ∃ t, txE 6 1 (.mk xop xn xname xkids) = t := ⟨_, rfl⟩
  have hsx : tx.size ≤ 900 := htx ▸ tx_bound hvx
  have E : Hid (jT (stW (.mk 8 name args body els)) = ((⟨#[100, 111, 32]⟩ ++ tx) ++ ⟨#[32, 59]⟩)) := by show _ = _; rw [hae, line8 hvx, htx]
  have HTx := Lib.hid htx
  have HFx := Lib.hid (val_form6 hvx)
  clear htx hvx hae hvs HLx
  have HLL := Lib.hid hll
  clear hll hlen
  have zs46 : (⟨#[100, 111, 32]⟩ : ByteArray).size = 3 := rfl
  have zs47 : ((⟨#[100, 111, 32]⟩ ++ tx) : ByteArray).size = 3 + tx.size := by rw [ByteArray.size_append, zs46]
  have zs48 : (⟨#[32, 59]⟩ : ByteArray).size = 2 := rfl
  have zs49 : (((⟨#[100, 111, 32]⟩ ++ tx) ++ ⟨#[32, 59]⟩) : ByteArray).size = 3 + tx.size + 2 := by rw [ByteArray.size_append, zs47, zs48]
  go_enter Tryz.func47, Tryz.ntmps47
  go_wp2_with fail
  refine (spec_l2Text 6 1 d' xop xn xname xkids (.slice Ax xkids.length px) _ lo B (Nat.le_trans hB hb0.size) g0x g1x g2x g3x HFx.out.1 HFx.out.2 (by omega)).mono ?_
  rw [HTx.out]
  rintro e w1 ⟨rfl, b1⟩
  have hb1 : Below w.heap.size w w1 := hb0.trans (b1.mono hb0.size)
  have R1 := R0.below b1 R0.lt
  have y0 : w1.cell? ⟨w.heap.size, 0, none⟩ = some (.int .i64 8) := R1.cell 0
  have y1 : w1.cell? ⟨w.heap.size, 1, none⟩ = some (.string name) := R1.cell 1
  have y2 : w1.cell? ⟨w.heap.size, 2, none⟩ = some (.slice (some ⟨bkx, ox, none⟩) args.length p2) := R1.cell 2
  have y3 : w1.cell? ⟨w.heap.size, 3, none⟩ = some (.slice A3 body.length p3) := R1.cell 3
  have y4 : w1.cell? ⟨w.heap.size, 4, none⟩ = some (.slice A4 els.length p4) := R1.cell 4
  go_wp2_with fail
  go_ret
  exact RetV.mk (by rw [E.out] <;> rfl) rfl hb1
theorem line_of (m : Nat) (ih : BlockAt m) : LineAt (m + 1) := by
  intro d op name args v2 body v3 els v4 w lo B hB hnm h2 h3 h4 hst hc
  have h8 := (st_in hst).1
  obtain rfl | rfl | rfl | rfl | rfl | rfl | rfl | rfl : op = 1 ∨ op = 2 ∨ op = 3 ∨ op = 4 ∨ op = 5 ∨ op = 6 ∨ op = 7 ∨ op = 8 := by omega
  · exact line_of1 m ih d name args v2 body v3 els v4 w lo B hB hnm h2 h3 h4 hst hc
  · exact line_of2 m ih d name args v2 body v3 els v4 w lo B hB hnm h2 h3 h4 hst hc
  · exact line_of3 m ih d name args v2 body v3 els v4 w lo B hB hnm h2 h3 h4 hst hc
  · exact line_of4 m ih d name args v2 body v3 els v4 w lo B hB hnm h2 h3 h4 hst hc
  · exact line_of5 m ih d name args v2 body v3 els v4 w lo B hB hnm h2 h3 h4 hst hc
  · exact line_of6 m ih d name args v2 body v3 els v4 w lo B hB hnm h2 h3 h4 hst hc
  · exact line_of7 m ih d name args v2 body v3 els v4 w lo B hB hnm h2 h3 h4 hst hc
  · exact line_of8 m ih d name args v2 body v3 els v4 w lo B hB hnm h2 h3 h4 hst hc
theorem line_pair : ∀ m : Nat, LineAt m
  | 0 => fun d op name args v2 body v3 els v4 w lo B _ _ _ _ _ h _ => by simp [stB] at h
  | m + 1 => line_of m (block_of m (line_pair m))
theorem spec_l3Block (m : Nat) : BlockAt m := block_of m (line_pair m)
end Go.Proofs.YtbikgakoeheahaaGreatDoor
