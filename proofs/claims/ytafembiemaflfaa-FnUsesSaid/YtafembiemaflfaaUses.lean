/-
  UsesOf by the reference: a number put into an ascending list. Conditions: the arguments read as data.
-/
import Derived.Test.YtafembiemaflfaaIn
namespace Go.Proofs.Ytafembiemaflfaa
open Go.RowKit Go.ChangeShapes Go.WideShapes Go.Deep

set_option linter.unusedVariables false
set_option linter.unusedSimpArgs false
theorem step_append_own {P : Program} {ops : Array Oper} {o : Oper} {a : Act} {w : World} {K : Act → World → Prop} {Q : Exit → Act → World → Prop} {E : Prop} (hg : o.guard = none) (s x : Operand) (t : TypeId)
    (ho : o.op = .call { callee := .builtin .append, args := #[s, x], argTypes := #[t, t] })
    (base : Nat) (e : TypeId) (i : TypeInfo) (z : Value) (size bytes : Nat) (ht : P.underlying t = some (.slice e)) (hi : P.info? e = some i) (hz : i.zero = some z)
    (hsize : i.size = size) (hby : i.bytes = bytes) (hzs : z.cells.size = size) (hsz : 0 < size)
    (v : Value) (n : Nat) (xs : List Value) (hs : a.eval s = v) (hown : w.ownsRow base e size v n xs)
    (ad : Addr) (m c : Nat) (news : List Value) (hx : a.eval x = .slice (some ad) m c) (hl : news.length = m * size) (hnews : ∀ j u, news[j]? = some u → w.cell? (ad.add j) = some u) (h1 : ∀ u ∈ news, u.oneCell' = true)
    (h63 : n + m ≤ maxLen) (hbytes : (n + m) * bytes ≤ 140737488355328) (hbase : base ≤ w.heap.size)
    (h : ∀ v' w', w'.ownsRow base e size v' (n + m) (xs ++ news) → w.grownBy w' v.ownBlock → (v' = .slice none 0 0 ↔ v = .slice none 0 0 ∧ m = 0) → K (a.put o.dst v') w') :
    if Region.wanted o (yielded ops a.tmps) = true then Oper.wp P o a w K Q else E := by
  have hw : Region.wanted o (yielded ops a.tmps) = true := by simp [Region.wanted, hg]
  rw [if_pos hw]
  exact wp_append_own w s x t ho base e i z size bytes ht hi hz hsize hby hzs hsz v n xs hs hown ad m c news hx hl hnews h1 h63 hbytes hbase h
/-- a number put into an ascending list -/
def insU : List Int → Int → List Int
  | [], n => [n]
  | a :: r, n => if a < n then a :: insU r n else if a = n then a :: r else n :: a :: r
/-- the numbers of a list, ascending, each once -/
def usesOf (l : List Int) : List Int := l.foldl insU []
theorem insU_lt {l : List Int} {n a : Int} {k : Nat} (h : k < l.length) (ha : l[k] = a) (hn : a < n) : insU (l.drop k) n = a :: insU (l.drop (k + 1)) n := by
  rw [drop_cons h ha]
  simp only [insU, hn, if_true]
theorem insU_eq {l : List Int} {a : Int} {k : Nat} (h : k < l.length) (ha : l[k] = a) : insU (l.drop k) a = l.drop k := by
  rw [drop_cons h ha]
  simp [insU]
theorem insU_gt {l : List Int} {n a : Int} {k : Nat} (h : k < l.length) (ha : l[k] = a) (hn : n < a) : insU (l.drop k) n = n :: l.drop k := by
  rw [drop_cons h ha]
  simp only [insU]
  rw [if_neg (by omega), if_neg (by omega)]
theorem insU_end {l : List Int} {n : Int} {k : Nat} (h : l.length ≤ k) : insU (l.drop k) n = n :: l.drop k := by
  rw [List.drop_eq_nil_of_le h]
  rfl
theorem take_step {l : List Int} {a : Int} {k : Nat} (h : k < l.length) (ha : l[k] = a) (r : List Int) : l.take k ++ a :: r = l.take (k + 1) ++ r := by
  rw [List.take_succ_eq_append_getElem h, ha]
  simp
theorem insU_len (l : List Int) (n : Int) : (insU l n).length ≤ l.length + 1 := by
  induction l with
  | nil => simp [insU]
  | cons a r ih =>
    simp only [insU]
    split
    · simp; omega
    · split <;> simp
theorem usesOf_len (l : List Int) : (usesOf l).length ≤ l.length := by
  have h : ∀ (l acc : List Int), (l.foldl insU acc).length ≤ acc.length + l.length := by
    intro l
    induction l with
    | nil => intro acc; simp
    | cons a r ih =>
      intro acc
      have h1 := ih (insU acc a)
      have h2 := insU_len acc a
      simp only [List.foldl_cons, List.length_cons]
      omega
  simpa [usesOf] using h l []
theorem insU_I64 {l : List Int} {n : Int} (hl : ∀ x ∈ l, I64 x) (hn : I64 n) : ∀ x ∈ insU l n, I64 x := by
  induction l with
  | nil => intro x hx; simp [insU] at hx; subst hx; exact hn
  | cons a r ih =>
    have ha := hl a (by simp)
    have hr : ∀ x ∈ r, I64 x := fun x hx => hl x (by simp [hx])
    intro x hx
    simp only [insU] at hx
    split at hx
    · rcases List.mem_cons.1 hx with rfl | hx
      · exact ha
      · exact ih hr x hx
    · split at hx
      · rcases List.mem_cons.1 hx with rfl | hx
        · exact ha
        · exact hr x hx
      · rcases List.mem_cons.1 hx with rfl | hx
        · exact hn
        · rcases List.mem_cons.1 hx with rfl | hx
          · exact ha
          · exact hr x hx
/-- the cells of a list of numbers -/
theorem Sl.cellI {w : World} {lo B b o n cap : Nat} {l : List Int} (h : Sl false (intS false) w lo B l (.slice (some ⟨b, o, none⟩) n cap)) {j : Nat} {a : Int} (ha : l[j]? = some a) : b < B ∧ w.cell? ⟨b, o + j, none⟩ = some (.int .i64 a) ∧ I64 a := by
  obtain ⟨hj, he⟩ := List.getElem?_eq_some_iff.1 ha
  obtain ⟨b', o', a', hA, _, hb, HL, hi, hc⟩ := int_get h hj
  injection hA with hA
  injection hA with e1 e2
  subst e1 e2
  have : a' = a := HL.out.symm.trans he
  subst this
  exact ⟨hb, hc, hi⟩
theorem addr_add (b o j : Nat) : (⟨b, o, none⟩ : Addr).add j = ⟨b, o + j, none⟩ := by
  unfold Addr.add
  split
  · rename_i h
    subst h
    rfl
  · rfl
theorem news_take {w : World} {lo B b o n cap : Nat} {l : List Int} (h : Sl false (intS false) w lo B l (.slice (some ⟨b, o, none⟩) n cap)) (k : Nat) : ∀ (j : Nat) (u : Value), ((l.take k).map (Value.int .i64))[j]? = some u → w.cell? ((⟨b, o, none⟩ : Addr).add j) = some u := by
  intro j u hu
  rw [List.getElem?_map] at hu
  obtain ⟨a, ha, rfl⟩ := Option.map_eq_some_iff.1 hu
  rw [List.getElem?_take] at ha
  split at ha
  · rw [addr_add]
    exact (h.cellI ha).2.1
  · cases ha
theorem news_drop {w : World} {lo B b o n cap : Nat} {l : List Int} (h : Sl false (intS false) w lo B l (.slice (some ⟨b, o, none⟩) n cap)) (k : Nat) : ∀ (j : Nat) (u : Value), ((l.drop k).map (Value.int .i64))[j]? = some u → w.cell? ((⟨b, o + k, none⟩ : Addr).add j) = some u := by
  intro j u hu
  rw [List.getElem?_map] at hu
  obtain ⟨a, ha, rfl⟩ := Option.map_eq_some_iff.1 hu
  rw [List.getElem?_drop] at ha
  have := (h.cellI ha).2.1
  rw [← Nat.add_assoc] at this
  rw [addr_add]
  exact this
theorem one_ints (l : List Int) : ∀ u ∈ l.map (Value.int .i64), u.oneCell' = true := by
  intro u hu
  obtain ⟨a, _, rfl⟩ := List.mem_map.1 hu
  rfl
/-- it answers a list, in memory from lo on -/
def InsUP (lo : Nat) (l : List Int) (w : World) (e : Ending) (w' : World) : Prop :=
  ∃ b o cap : Nat, e = .returned (.slice (some ⟨b, o, none⟩) l.length cap) ∧ Sl false (intS false) w' lo w'.heap.size l (.slice (some ⟨b, o, none⟩) l.length cap) ∧ Below w.heap.size w w'

theorem ins_end {l : List Int} {n : Int} {k m lo : Nat} {w w0 : World} {v : Value} (E : insU l n = l.take k ++ n :: l.drop k) (hown : w.ownsRow w0.heap.size 3 1 v (m + 1 + (l.length - k)) ((l.take k).map (Value.int .i64) ++ [.int .i64 n] ++ (l.drop k).map (Value.int .i64))) (hm : m = (l.take k).length) (hI : ∀ x ∈ insU l n, I64 x) (hlo : lo ≤ w0.heap.size) (hb : Below w0.heap.size w0 w) :
    InsUP lo (insU l n) w0 (.returned v) w := by
  have hl : (insU l n).length = m + 1 + (l.length - k) := by rw [E, hm]; simp; omega
  have hx : (insU l n).map (Value.int .i64) = (l.take k).map (Value.int .i64) ++ [.int .i64 n] ++ (l.drop k).map (Value.int .i64) := by rw [E]; simp
  rw [← hl, ← hx] at hown
  have hs := Sl.of_own hown hI hlo false
  obtain ⟨A, cap, hv, _, _, h3⟩ := id hs
  obtain ⟨b, o, rfl, _⟩ := h3 (fun h => by rw [h] at hl; simp at hl; omega)
  exact ⟨b, o, cap, by rw [hv], by rw [← hv]; exact hs, hb⟩

set_option maxRecDepth 100000 in
set_option maxHeartbeats 2000000 in
theorem spec_l7Insert (l : List Int) (b o cap : Nat) (n : Int) (w : World) (lo B : Nat) (hB : B ≤ w.heap.size) (hlo : lo ≤ w.heap.size) (hN : l.length ≤ 1048576) (hn : I64 n) (hv : Sl false (intS false) w lo B l (.slice (some ⟨b, o, none⟩) l.length cap)) :
    Calls Try.prog 39 #[.slice (some ⟨b, o, none⟩) l.length cap, .int .i64 n] w (InsUP lo (insU l n) w) := by
  obtain ⟨A, cap', hf, hlc, hcm⟩ := hv.form
  injection hf with hA1 hA2 hA3
  subst hA1 hA3
  clear hA2
  obtain ⟨i0, hi, hz0, hz1, hz2⟩ := info_parts Try.info_int
  have hI0 : ∀ x ∈ l, I64 x := fun x hx => by
    obtain ⟨j, hj⟩ := List.getElem?_of_mem hx
    exact (hv.cellI hj).2.2
  have hI := Lib.hid (insU_I64 hI0 hn)
  clear hI0
  go_enter Try.func39, Try.ntmps39
  go_wp2_with fail
  go_loop [5] (fun i => ∃ k : Nat, k ≤ l.length ∧ i = .int .i64 k ∧ Hid (insU l n = l.take k ++ insU (l.drop k) n)) (fun i => l.length - (intOf i).toNat)
  case atStart => exact ⟨0, by omega, rfl, (show _ = _ by simp)⟩
  case round =>
    obtain ⟨k, hk, rfl, HT⟩ := hrel
    by_cases hkl : k < l.length
    · obtain ⟨b', o', a, hA, _, _, HL, ha, c0⟩ := int_get hv hkl
      injection hA with hA
      injection hA with e1 e2
      subst e1 e2
      have hkn : (k : Int) < (l.length : Int) := by omega
      have hki : (0 : Int) ≤ (k : Int) := by omega
      by_cases h1 : a < n
      · have E : Hid (insU l n = l.take (k + 1) ++ insU (l.drop (k + 1)) n) := by
          show _ = _
          rw [HT.out, insU_lt hkl HL.out h1, take_step hkl HL.out]
        clear HT
        go_wp2_with fail
        go_round
        case rel => exact ⟨k + 1, by omega, by go_num, E⟩
        case measure => simp [intOf]; omega
      · have h1' : decide (a < n) = false := by simpa using h1
        by_cases h2 : a = n
        · subst h2
          have E : Hid (insU l a = l) := by
            show _ = _
            rw [HT.out, insU_eq hkl HL.out]
            exact List.take_append_drop _ _
          clear HT
          go_wp2_with fail
          go_ret
          exact ⟨b, o, cap, by rw [E.out] <;> rfl, by rw [E.out]; exact hv.more (Nat.le_refl _) hB, Below.refl _ _⟩
        · have h2' : (a == n) = false := by simpa using h2
          have E : Hid (insU l n = l.take k ++ n :: l.drop k) := by
            show _ = _
            rw [HT.out, insU_gt hkl HL.out (by omega)]
          clear HT h1 h2
          have hb1 : Below w.heap.size w (w.alloc (.cells #[] 3)) := (Below.refl _ _).alloc (Nat.le_refl _) _
          have hown0 : (w.alloc (.cells #[] 3)).ownsRow w.heap.size 3 1 (.slice (some ⟨w.heap.size, 0, none⟩) 0 0) 0 [] := ⟨rfl, Or.inr ⟨_, 0, #[], rfl, Nat.le_refl _, Row.new w 3 #[], by simp, by simp [maxLen], rfl, rfl⟩⟩
          have hv1 := hv.below hb1 hB
          go_wp2_with (at_builtin; refine wpList_append_own _ rfl _ _ 28 rfl w.heap.size 3 i0 (.int .i64 0) 1 8 Try.underlying28 hi hz0 hz1 hz2 rfl (by decide) _ _ _ rfl hown0 ⟨b, o, none⟩ k _ ((l.take k).map (Value.int .i64)) rfl (by rw [List.length_map, List.length_take, Nat.mul_one]; omega) (news_take hv1 k) (one_ints _) (by unfold maxLen; omega) (by omega) (by simp) ?_)
          try (case c1 => exact news_take hv1 k)
          try (case c3 => unfold maxLen; omega)
          try (case c4 => omega)
          try (case c5 => simp)
          intro v1 w1 hown1 hgrow1 _
          have hb2 : Below w.heap.size w w1 := hb1.grown hgrow1 (by simp) (fun q hq => by have := own_ge hown0 hq; omega)
          have hs1 := hgrow1.size
          try simp only [Nat.zero_add, List.nil_append] at hown1
          go_wp2_with fail
          have hbd : Below w.heap.size w w1.drew := hb2.drew
          have hownd : w1.drew.ownsRow w.heap.size 3 1 v1 k ((l.take k).map (Value.int .i64)) := by first | exact hown1 | (rw [List.map_take]; exact hown1)
          have hd1 : w1.drew.heap.size ≤ w1.heap.size := Nat.le_refl _
          have hd2 : w1.heap.size ≤ w1.drew.heap.size := Nat.le_refl _
          have hsd : w.heap.size + 1 ≤ w1.drew.heap.size := by have : w1.drew.heap.size = w1.heap.size := rfl; simp at hs1; omega
          by_cases hcap : cap = k
          · exact absurd hcap (by omega)
          · have hck : k < cap := by omega
            have hcap := Lib.hid hcap
            refine wp_region_held_drew (S := fun w' => True) (by kernel_rfl) ?_ (fun hHeld => ?_)
            · trivial
            refine reg_take (i := 0) (v := ?v1) rfl (by kernel_rfl) (by kernel_rfl) (by kernel_rfl) (fun _ _ _ h => h) (Or.inl ⟨by kernel_rfl, ?h1⟩) (by assumption) ?r1
            case h1 => (intro w hSw; (try dsimp only at hSw); go_simp; try with_reducible rfl)
            try simp only [Act.put, List.setIfInBounds_toArray, List.set_cons_zero, List.set_cons_succ]
            refine reg_take (i := 1) (v := ?v2) rfl (by kernel_rfl) (by kernel_rfl) (by kernel_rfl) (fun _ _ _ h => h) (Or.inl ⟨by kernel_rfl, ?h2⟩) (by assumption) ?r2
            case h2 => (intro w hSw; (try dsimp only at hSw); go_simp; try with_reducible rfl)
            try simp only [Act.put, List.setIfInBounds_toArray, List.set_cons_zero, List.set_cons_succ]
            refine reg_take (i := 4) (v := ?v3) rfl (by kernel_rfl) (by kernel_rfl) (by kernel_rfl) (fun _ _ _ h => h) (Or.inl ⟨by kernel_rfl, ?h3⟩) (by assumption) ?r3
            case h3 => (intro w hSw; (try dsimp only at hSw); go_simp; try with_reducible rfl)
            try simp only [Act.put, List.setIfInBounds_toArray, List.set_cons_zero, List.set_cons_succ]
            refine reg_take (i := 5) (v := ?v4) rfl (by kernel_rfl) (by kernel_rfl) (by kernel_rfl) (fun _ _ _ h => h) (Or.inl ⟨by kernel_rfl, ?h4⟩) (by assumption) ?r4
            case h4 => (intro w hSw; (try dsimp only at hSw); go_simp; try with_reducible rfl)
            try simp only [Act.put, List.setIfInBounds_toArray, List.set_cons_zero, List.set_cons_succ]
            refine reg_take (i := 6) (v := ?v5) rfl (by kernel_rfl) (by kernel_rfl) (by kernel_rfl) (fun _ _ _ h => h) (Or.inl ⟨by kernel_rfl, ?h5⟩) (by assumption) ?r5
            case h5 => (intro w hSw; (try dsimp only at hSw); go_simp; try with_reducible rfl)
            try simp only [Act.put, List.setIfInBounds_toArray, List.set_cons_zero, List.set_cons_succ]
            refine reg_call (i := 2) (by kernel_rfl) rfl (fun K hK => ?_)
            go_simp
            refine hK.out _ _ ?_ (fun hHeld => ?_)
            · trivial
            clear hK K
            try simp only [Act.put, List.setIfInBounds_toArray, List.set_cons_zero, List.set_cons_succ]
            refine reg_call (i := 3) (by kernel_rfl) rfl (fun K hK => ?_)
            refine step_append_own rfl _ _ 28 rfl w.heap.size 3 i0 (.int .i64 0) 1 8 Try.underlying28 hi hz0 hz1 hz2 rfl (by decide) _ _ _ rfl (hownd.alloc (.cells #[.int .i64 n] 3)) ⟨w1.drew.heap.size, 0, none⟩ 1 1 [.int .i64 n] rfl rfl (cell_one_new _ _ _) (one_ints [n]) (by unfold maxLen; omega) (by omega) (Nat.le_trans hbd.size (by simp)) ?_; intro v2 w2 hown2 hgrow2 _; have hb3 : Below w.heap.size w w2 := (hbd.alloc hbd.size _).grown hgrow2 (hbd.alloc hbd.size _).size (fun q hq => by have := own_ge hownd hq; omega); have hs2 := hgrow2.size; have hv2 := hv.below hb3 hB
            refine hK.out _ _ ?_ (fun hHeld => ?_)
            · trivial
            clear hK K
            try simp only [Act.put, List.setIfInBounds_toArray, List.set_cons_zero, List.set_cons_succ]
            refine reg_call (i := 7) (by kernel_rfl) rfl (fun K hK => ?_)
            refine step_append_own rfl _ _ 28 rfl w.heap.size 3 i0 (.int .i64 0) 1 8 Try.underlying28 hi hz0 hz1 hz2 rfl (by decide) _ _ _ rfl hown2 ⟨b, o + k, none⟩ (l.length - k) (cap - k) ((l.drop k).map (Value.int .i64)) (rfl) (by rw [List.length_map, List.length_drop, Nat.mul_one]) (news_drop hv2 k) (one_ints _) (by unfold maxLen; omega) (by omega) hb3.size ?_; intro v3 w3 hown3 hgrow3 hnil; have hb4 : Below w.heap.size w w3 := hb3.grown hgrow3 hb3.size (fun q hq => by have := own_ge hown2 hq; omega)
            refine hK.out _ _ ?_ (fun hHeld => ?_)
            · trivial
            clear hK K
            try simp only [Act.put, List.setIfInBounds_toArray, List.set_cons_zero, List.set_cons_succ]
            refine reg_take (i := 8) (v := ?v9) rfl (by kernel_rfl) (by kernel_rfl) (by kernel_rfl) (fun _ _ _ h => h) (Or.inl ⟨by kernel_rfl, ?h9⟩) (by assumption) ?r9
            case h9 => (intro w hSw; (try dsimp only at hSw); go_simp; try with_reducible rfl)
            try simp only [Act.put, List.setIfInBounds_toArray, List.set_cons_zero, List.set_cons_succ]
            refine wpAnyH_done (by kernel_rfl) ?_ _
            go_wp2_with fail
            go_ret
            exact ins_end (v := v3) E.out hown3 (by rw [List.length_take]; omega) hI.out hlo hb4
    · have E : Hid (insU l n = l.take k ++ n :: l.drop k) := by
        show _ = _
        rw [HT.out, insU_end (by omega)]
      clear HT
      have hb1 : Below w.heap.size w (w.alloc (.cells #[] 3)) := (Below.refl _ _).alloc (Nat.le_refl _) _
      have hown0 : (w.alloc (.cells #[] 3)).ownsRow w.heap.size 3 1 (.slice (some ⟨w.heap.size, 0, none⟩) 0 0) 0 [] := ⟨rfl, Or.inr ⟨_, 0, #[], rfl, Nat.le_refl _, Row.new w 3 #[], by simp, by simp [maxLen], rfl, rfl⟩⟩
      have hv1 := hv.below hb1 hB
      go_wp2_with (at_builtin; refine wpList_append_own _ rfl _ _ 28 rfl w.heap.size 3 i0 (.int .i64 0) 1 8 Try.underlying28 hi hz0 hz1 hz2 rfl (by decide) _ _ _ rfl hown0 ⟨b, o, none⟩ k _ ((l.take k).map (Value.int .i64)) rfl (by rw [List.length_map, List.length_take, Nat.mul_one]; omega) (news_take hv1 k) (one_ints _) (by unfold maxLen; omega) (by omega) (by simp) ?_)
      try (case c1 => exact news_take hv1 k)
      try (case c3 => unfold maxLen; omega)
      try (case c4 => omega)
      try (case c5 => simp)
      intro v1 w1 hown1 hgrow1 _
      have hb2 : Below w.heap.size w w1 := hb1.grown hgrow1 (by simp) (fun q hq => by have := own_ge hown0 hq; omega)
      have hs1 := hgrow1.size
      try simp only [Nat.zero_add, List.nil_append] at hown1
      go_wp2_with fail
      have hbd : Below w.heap.size w w1.drew := hb2.drew
      have hownd : w1.drew.ownsRow w.heap.size 3 1 v1 k ((l.take k).map (Value.int .i64)) := by first | exact hown1 | (rw [List.map_take]; exact hown1)
      have hd1 : w1.drew.heap.size ≤ w1.heap.size := Nat.le_refl _
      have hd2 : w1.heap.size ≤ w1.drew.heap.size := Nat.le_refl _
      have hsd : w.heap.size + 1 ≤ w1.drew.heap.size := by have : w1.drew.heap.size = w1.heap.size := rfl; simp at hs1; omega
      by_cases hcap : cap = k
      · have hcap' : k = cap := hcap.symm
        subst hcap'
        have hl0 : l.length - k = 0 := by omega
        have hl0 := Lib.hid hl0
        refine wp_region_held_drew (S := fun w' => True) (by kernel_rfl) ?_ (fun hHeld => ?_)
        · trivial
        refine reg_take (i := 0) (v := ?v10) rfl (by kernel_rfl) (by kernel_rfl) (by kernel_rfl) (fun _ _ _ h => h) (Or.inl ⟨by kernel_rfl, ?h10⟩) (by assumption) ?r10
        case h10 => (intro w hSw; (try dsimp only at hSw); go_simp; try with_reducible rfl)
        try simp only [Act.put, List.setIfInBounds_toArray, List.set_cons_zero, List.set_cons_succ]
        refine reg_take (i := 1) (v := ?v11) rfl (by kernel_rfl) (by kernel_rfl) (by kernel_rfl) (fun _ _ _ h => h) (Or.inl ⟨by kernel_rfl, ?h11⟩) (by assumption) ?r11
        case h11 => (intro w hSw; (try dsimp only at hSw); go_simp; try with_reducible rfl)
        try simp only [Act.put, List.setIfInBounds_toArray, List.set_cons_zero, List.set_cons_succ]
        refine reg_take (i := 4) (v := ?v12) rfl (by kernel_rfl) (by kernel_rfl) (by kernel_rfl) (fun _ _ _ h => h) (Or.inl ⟨by kernel_rfl, ?h12⟩) (by assumption) ?r12
        case h12 => (intro w hSw; (try dsimp only at hSw); go_simp; try with_reducible rfl)
        try simp only [Act.put, List.setIfInBounds_toArray, List.set_cons_zero, List.set_cons_succ]
        refine reg_take (i := 5) (v := ?v13) rfl (by kernel_rfl) (by kernel_rfl) (by kernel_rfl) (fun _ _ _ h => h) (Or.inl ⟨by kernel_rfl, ?h13⟩) (by assumption) ?r13
        case h13 => (intro w hSw; (try dsimp only at hSw); go_simp; try with_reducible rfl)
        try simp only [Act.put, List.setIfInBounds_toArray, List.set_cons_zero, List.set_cons_succ]
        refine reg_take (i := 6) (v := ?v14) rfl (by kernel_rfl) (by kernel_rfl) (by kernel_rfl) (fun _ _ _ h => h) (Or.inl ⟨by kernel_rfl, ?h14⟩) (by assumption) ?r14
        case h14 => (intro w hSw; (try dsimp only at hSw); go_simp; try with_reducible rfl)
        try simp only [Act.put, List.setIfInBounds_toArray, List.set_cons_zero, List.set_cons_succ]
        refine reg_call (i := 2) (by kernel_rfl) rfl (fun K hK => ?_)
        go_simp
        refine hK.out _ _ ?_ (fun hHeld => ?_)
        · trivial
        clear hK K
        try simp only [Act.put, List.setIfInBounds_toArray, List.set_cons_zero, List.set_cons_succ]
        refine reg_call (i := 3) (by kernel_rfl) rfl (fun K hK => ?_)
        refine step_append_own rfl _ _ 28 rfl w.heap.size 3 i0 (.int .i64 0) 1 8 Try.underlying28 hi hz0 hz1 hz2 rfl (by decide) _ _ _ rfl (hownd.alloc (.cells #[.int .i64 n] 3)) ⟨w1.drew.heap.size, 0, none⟩ 1 1 [.int .i64 n] rfl rfl (cell_one_new _ _ _) (one_ints [n]) (by unfold maxLen; omega) (by omega) (Nat.le_trans hbd.size (by simp)) ?_; intro v2 w2 hown2 hgrow2 _; have hb3 : Below w.heap.size w w2 := (hbd.alloc hbd.size _).grown hgrow2 (hbd.alloc hbd.size _).size (fun q hq => by have := own_ge hownd hq; omega); have hs2 := hgrow2.size; have hv2 := hv.below hb3 hB
        refine hK.out _ _ ?_ (fun hHeld => ?_)
        · trivial
        clear hK K
        try simp only [Act.put, List.setIfInBounds_toArray, List.set_cons_zero, List.set_cons_succ]
        refine reg_call (i := 7) (by kernel_rfl) rfl (fun K hK => ?_)
        refine step_append_own rfl _ _ 28 rfl w.heap.size 3 i0 (.int .i64 0) 1 8 Try.underlying28 hi hz0 hz1 hz2 rfl (by decide) _ _ _ rfl hown2 ⟨b, o, none⟩ (0) (0) ([]) (rfl) (rfl) (fun j u hu => by simp at hu) (one_ints []) (by unfold maxLen; omega) (by omega) hb3.size ?_; intro v3 w3 hown3 hgrow3 hnil; have hb4 : Below w.heap.size w w3 := hb3.grown hgrow3 hb3.size (fun q hq => by have := own_ge hown2 hq; omega)
        refine hK.out _ _ ?_ (fun hHeld => ?_)
        · trivial
        clear hK K
        try simp only [Act.put, List.setIfInBounds_toArray, List.set_cons_zero, List.set_cons_succ]
        refine reg_take (i := 8) (v := ?v18) rfl (by kernel_rfl) (by kernel_rfl) (by kernel_rfl) (fun _ _ _ h => h) (Or.inl ⟨by kernel_rfl, ?h18⟩) (by assumption) ?r18
        case h18 => (intro w hSw; (try dsimp only at hSw); go_simp; try with_reducible rfl)
        try simp only [Act.put, List.setIfInBounds_toArray, List.set_cons_zero, List.set_cons_succ]
        refine wpAnyH_done (by kernel_rfl) ?_ _
        go_wp2_with fail
        go_ret
        exact ins_end (v := v3) E.out (by rw [List.drop_eq_nil_of_le (show l.length ≤ k by omega), hl0.out]; exact hown3) (by rw [List.length_take]; omega) hI.out hlo hb4
      · have hck : k < cap := by omega
        have hcap := Lib.hid hcap
        refine wp_region_held_drew (S := fun w' => True) (by kernel_rfl) ?_ (fun hHeld => ?_)
        · trivial
        refine reg_take (i := 0) (v := ?v19) rfl (by kernel_rfl) (by kernel_rfl) (by kernel_rfl) (fun _ _ _ h => h) (Or.inl ⟨by kernel_rfl, ?h19⟩) (by assumption) ?r19
        case h19 => (intro w hSw; (try dsimp only at hSw); go_simp; try with_reducible rfl)
        try simp only [Act.put, List.setIfInBounds_toArray, List.set_cons_zero, List.set_cons_succ]
        refine reg_take (i := 1) (v := ?v20) rfl (by kernel_rfl) (by kernel_rfl) (by kernel_rfl) (fun _ _ _ h => h) (Or.inl ⟨by kernel_rfl, ?h20⟩) (by assumption) ?r20
        case h20 => (intro w hSw; (try dsimp only at hSw); go_simp; try with_reducible rfl)
        try simp only [Act.put, List.setIfInBounds_toArray, List.set_cons_zero, List.set_cons_succ]
        refine reg_take (i := 4) (v := ?v21) rfl (by kernel_rfl) (by kernel_rfl) (by kernel_rfl) (fun _ _ _ h => h) (Or.inl ⟨by kernel_rfl, ?h21⟩) (by assumption) ?r21
        case h21 => (intro w hSw; (try dsimp only at hSw); go_simp; try with_reducible rfl)
        try simp only [Act.put, List.setIfInBounds_toArray, List.set_cons_zero, List.set_cons_succ]
        refine reg_take (i := 5) (v := ?v22) rfl (by kernel_rfl) (by kernel_rfl) (by kernel_rfl) (fun _ _ _ h => h) (Or.inl ⟨by kernel_rfl, ?h22⟩) (by assumption) ?r22
        case h22 => (intro w hSw; (try dsimp only at hSw); go_simp; try with_reducible rfl)
        try simp only [Act.put, List.setIfInBounds_toArray, List.set_cons_zero, List.set_cons_succ]
        refine reg_take (i := 6) (v := ?v23) rfl (by kernel_rfl) (by kernel_rfl) (by kernel_rfl) (fun _ _ _ h => h) (Or.inl ⟨by kernel_rfl, ?h23⟩) (by assumption) ?r23
        case h23 => (intro w hSw; (try dsimp only at hSw); go_simp; try with_reducible rfl)
        try simp only [Act.put, List.setIfInBounds_toArray, List.set_cons_zero, List.set_cons_succ]
        refine reg_call (i := 2) (by kernel_rfl) rfl (fun K hK => ?_)
        go_simp
        refine hK.out _ _ ?_ (fun hHeld => ?_)
        · trivial
        clear hK K
        try simp only [Act.put, List.setIfInBounds_toArray, List.set_cons_zero, List.set_cons_succ]
        refine reg_call (i := 3) (by kernel_rfl) rfl (fun K hK => ?_)
        refine step_append_own rfl _ _ 28 rfl w.heap.size 3 i0 (.int .i64 0) 1 8 Try.underlying28 hi hz0 hz1 hz2 rfl (by decide) _ _ _ rfl (hownd.alloc (.cells #[.int .i64 n] 3)) ⟨w1.drew.heap.size, 0, none⟩ 1 1 [.int .i64 n] rfl rfl (cell_one_new _ _ _) (one_ints [n]) (by unfold maxLen; omega) (by omega) (Nat.le_trans hbd.size (by simp)) ?_; intro v2 w2 hown2 hgrow2 _; have hb3 : Below w.heap.size w w2 := (hbd.alloc hbd.size _).grown hgrow2 (hbd.alloc hbd.size _).size (fun q hq => by have := own_ge hownd hq; omega); have hs2 := hgrow2.size; have hv2 := hv.below hb3 hB
        refine hK.out _ _ ?_ (fun hHeld => ?_)
        · trivial
        clear hK K
        try simp only [Act.put, List.setIfInBounds_toArray, List.set_cons_zero, List.set_cons_succ]
        refine reg_call (i := 7) (by kernel_rfl) rfl (fun K hK => ?_)
        refine step_append_own rfl _ _ 28 rfl w.heap.size 3 i0 (.int .i64 0) 1 8 Try.underlying28 hi hz0 hz1 hz2 rfl (by decide) _ _ _ rfl hown2 ⟨b, o + k, none⟩ (l.length - k) (cap - k) ((l.drop k).map (Value.int .i64)) (rfl) (by rw [List.length_map, List.length_drop, Nat.mul_one]) (news_drop hv2 k) (one_ints _) (by unfold maxLen; omega) (by omega) hb3.size ?_; intro v3 w3 hown3 hgrow3 hnil; have hb4 : Below w.heap.size w w3 := hb3.grown hgrow3 hb3.size (fun q hq => by have := own_ge hown2 hq; omega)
        refine hK.out _ _ ?_ (fun hHeld => ?_)
        · trivial
        clear hK K
        try simp only [Act.put, List.setIfInBounds_toArray, List.set_cons_zero, List.set_cons_succ]
        refine reg_take (i := 8) (v := ?v27) rfl (by kernel_rfl) (by kernel_rfl) (by kernel_rfl) (fun _ _ _ h => h) (Or.inl ⟨by kernel_rfl, ?h27⟩) (by assumption) ?r27
        case h27 => (intro w hSw; (try dsimp only at hSw); go_simp; try with_reducible rfl)
        try simp only [Act.put, List.setIfInBounds_toArray, List.set_cons_zero, List.set_cons_succ]
        refine wpAnyH_done (by kernel_rfl) ?_ _
        go_wp2_with fail
        go_ret
        exact ins_end (v := v3) E.out hown3 (by rw [List.length_take]; omega) hI.out hlo hb4

end Go.Proofs.Ytafembiemaflfaa

