/- A step is valid; the order of a flow's steps: walks. -/
import Derived.Test.YtdchfiiaollheaaFlows1
import Derived.BigQuiet
namespace Go.Proofs.Ytdchfiiaollheaa
open Go.RowKit

def stepB (nm : ByteArray) (af : List ByteArray) : Bool := nameB nm && decide (af.length ≤ 4) && ascB af && !inB af nm
theorem stepB_no1 {nm : ByteArray} {af : List ByteArray} (h : nameB nm = false) : stepB nm af = false := by simp [stepB, h]
theorem stepB_no2 {nm : ByteArray} {af : List ByteArray} (h : 4 < af.length) : stepB nm af = false := by
  have : decide (af.length ≤ 4) = false := decide_eq_false (by omega)
  simp only [stepB, this]; simp
theorem stepB_no3 {nm : ByteArray} {af : List ByteArray} (h : ascB af = false) : stepB nm af = false := by simp [stepB, h]
theorem stepB_no4 {nm : ByteArray} {af : List ByteArray} (h : inB af nm = true) : stepB nm af = false := by simp [stepB, h]
theorem stepB_yes {nm : ByteArray} {af : List ByteArray} (h1 : nameB nm = true) (h2 : af.length ≤ 4) (h3 : ascB af = true) (h4 : inB af nm = false) : stepB nm af = true := by
  have : decide (af.length ≤ 4) = true := decide_eq_true h2
  simp [stepB, h1, h3, h4, this]

set_option maxRecDepth 20000 in
set_option maxHeartbeats 1000000 in
theorem implStepValid_c (nm : ByteArray) (B : Option Addr) (m d : Nat) (u : Bool) (af : List ByteArray) (w : World) (haf : SlS w B m d af) (hs : nm.size ≤ 9223372036854775807) (hz : SzL af) : Calls Try.prog 82 #[.agg #[.string nm, .slice B m d, .bool u]] w fun e w' =>
    e = .returned (.bool (stepB nm af)) ∧ Below w.heap.size w w' := by
  have HL := Lib.hid haf.len
  have hcap := haf.cap
  have hmax := haf.max
  have kb := Blk.new w 30 #[.string nm, .slice B m d, .bool u]
  have hW := bel_al (bel_refl w) (.cells #[.string nm, .slice B m d, .bool u] 30)
  have ha := haf.al (.cells #[.string nm, .slice B m d, .bool u] 30)
  have ck := kb.cell
  obtain ⟨b1, hb1⟩ : ∃ x, nameB nm = x := ⟨_, rfl⟩
  have HB1 := Lib.hid hb1
  clear hb1
  go_enter Try.func82, Try.ntmps82
  go_wp2_with fail
  refine (implNameValid_b nm b1 _ hs HB1.out).mono ?_
  rintro e w1 ⟨rfl, rfl⟩
  cases b1
  · have HF := Lib.hid (stepB_no1 (af := af) HB1.out)
    go_wp2_with fail
    go_ret
    exact ⟨ret_bool HF.out.symm, hW⟩
  by_cases h4 : 4 < m
  · have HF := Lib.hid (stepB_no2 (nm := nm) (by rw [HL.out]; exact h4))
    have d4 : decide ((m : Int) ≤ 4) = false := decide_eq_false (by omega)
    go_wp2_with fail
    go_ret
    exact ⟨ret_bool HF.out.symm, hW⟩
  have d4 : decide ((m : Int) ≤ 4) = true := decide_eq_true (by omega)
  obtain ⟨b2, hb2⟩ : ∃ x, ascB af = x := ⟨_, rfl⟩
  have HB2 := Lib.hid hb2
  clear hb2
  go_wp2_with fail
  refine (namesAscend_b B m d af b2 _ ha hz HB2.out).mono ?_
  rintro e w2 ⟨rfl, rfl⟩
  cases b2
  · have HF := Lib.hid (stepB_no3 (nm := nm) HB2.out)
    go_wp2_with fail
    go_ret
    exact ⟨ret_bool HF.out.symm, hW⟩
  obtain ⟨b3, hb3⟩ : ∃ x, inB af nm = x := ⟨_, rfl⟩
  have HB3 := Lib.hid hb3
  clear hb3
  go_wp2_with fail
  refine (contains_b B m d af nm b3 _ ha HB3.out).mono ?_
  rintro e w3 ⟨rfl, rfl⟩
  have HF : Hid (stepB nm af = !b3) := Lib.hid (by
    cases b3
    · exact stepB_yes HB1.out (by rw [HL.out]; omega) HB2.out HB3.out
    · exact stepB_no4 HB3.out)
  go_wp2_with fail
  go_ret
  exact ⟨ret_bool HF.out.symm, hW⟩

theorem specNameValid_q (s : ByteArray) (b : Bool) (w : World) (hs : s.size ≤ 9223372036854775807) (hb : nameB s = b) : Calls Try.prog 85 #[.string s] w fun e w' => e = .returned (.bool b) ∧ w' = w :=
  (specNameValid_b s b w hs hb).mono fun _ _ ⟨h1, h2⟩ => ⟨h1, h2.symm⟩

set_option maxRecDepth 20000 in
set_option maxHeartbeats 2000000 in
theorem specStepValid_c (nm : ByteArray) (B : Option Addr) (m d : Nat) (u : Bool) (af : List ByteArray) (w : World) (haf : SlS w B m d af) (hs : nm.size ≤ 9223372036854775807) (hz : SzL af) : Calls Try.prog 56 #[.agg #[.string nm, .slice B m d, .bool u]] w fun e w' =>
    e = .returned (.bool (stepB nm af)) ∧ Below w.heap.size w w' := by
  have HL := Lib.hid haf.len
  have hcap := haf.cap
  have hmax := haf.max
  have kb := Blk.new w 30 #[.string nm, .slice B m d, .bool u]
  have hW := bel_al (bel_refl w) (.cells #[.string nm, .slice B m d, .bool u] 30)
  go_enter Try.func56, Try.ntmps56
  go_wp2_with fail
  go_loopw [3] (fun i wr => ∃ k : Nat, k ≤ m ∧ i = .int .i64 k ∧ Hid (∀ j, j < k → okAt nameB ltS af j = true) ∧ Blk wr w.heap.size 30 #[.string nm, .slice B m d, .bool u] ∧ Below w.heap.size w wr) (fun i _ => m - (intOf i).toNat)
  case atStart => exact ⟨0, Nat.zero_le _, rfl, Lib.hid (fun j h => by omega), kb, hW⟩
  case round =>
    obtain ⟨k, hk, rfl, H, kb, hbr⟩ := hrel
    have ck := kb.cell
    by_cases hlt : k < m
    · obtain ⟨b, off, t, rfl, hx, hc0⟩ := SlS.get (haf.bel hbr) hlt
      have hts := szL_at hz hx
      have HX := Lib.hid hx
      clear hx
      have k0 : (0 : Int) ≤ (k : Int) := by omega
      have k1 : (k : Int) < (m : Int) := by omega
      obtain ⟨bi, hbi⟩ : ∃ x, nameB t = x := ⟨_, rfl⟩
      have HB := Lib.hid hbi
      clear hbi
      cases bi
      · have HF := Lib.hid (stepB_no3 (nm := nm) (okAll_no (lt := ltS) (by rw [HL.out]; exact hlt) (okAt_bad HX.out HB.out)))
        go_wp2_with fail
        go_quiet ((go_at_call 85; exact Calls.quiet_of_same (specNameValid_q _ _ _ hts HB.out)))
        go_wp2_with fail
        go_ret
        exact ⟨ret_bool HF.out.symm, by (repeat' first | assumption | exact bel_refl _ | refine bel_al ?_ _ | refine bel_dr ?_ | refine bel_drN ?_ _ | refine bel_nx ?_ (by assumption) | (refine bel_set ?_ (by first | omega | (simp; omega)) _))⟩
      · rcases Nat.eq_zero_or_pos k with hk0 | hk0
        · subst hk0
          simp only [Nat.add_zero] at hc0
          have HO := Lib.hid (okAt_zero (lt := ltS) HX.out HB.out)
          go_wp2_with fail
          go_quiet ((go_at_call 85; exact Calls.quiet_of_same (specNameValid_q _ _ _ hts HB.out)))
          go_wp2_with fail
          go_roundw
          case rel => exact ⟨1, by omega, by go_num, Lib.hid (upto_ok (k := 0) H.out HO.out), kb.drN _, by (repeat' first | assumption | exact bel_refl _ | refine bel_al ?_ _ | refine bel_dr ?_ | refine bel_drN ?_ _ | refine bel_nx ?_ (by assumption) | (refine bel_set ?_ (by first | omega | (simp; omega)) _))⟩
          case measure => simp [intOf]; omega
        · obtain ⟨j, rfl⟩ : ∃ j, k = j + 1 := ⟨k - 1, by omega⟩
          obtain ⟨b', off', t', hA', hy, hd0⟩ := SlS.get (haf.bel hbr) (i := j) (by omega)
          cases hA'
          have hprev := okAt_prev (lt := ltS) HX.out HB.out (by omega) (show af[j + 1 - 1]? = some t' from hy)
          clear hy
          have hwj : IntKind.i64.wrap (j : Int) = (j : Int) := by rw [IntKind.wrap_i64]; omega
          have dj : decide ((0 : Int) < (j : Int) + 1) = true := decide_eq_true (by omega)
          have j0 : (0 : Int) ≤ (j : Int) := by omega
          have j2 : (0 : Int) ≤ (j : Int) + 1 := by omega
          have j3 : (j : Int) + 1 < (m : Int) := by omega
          have j4 : ((j : Int) + 1).toNat = j + 1 := by omega
          have j1 : (j : Int) < (m : Int) := by omega
          cases hc : ltS t' t
          · have HF := Lib.hid (stepB_no3 (nm := nm) (okAll_no (by rw [HL.out]; exact hlt) (hprev.trans hc)))
            have e1 : Op.bytesLess t'.toList t.toList = false := hc
            clear hprev hc
            go_wp2_with fail
            go_quiet ((go_at_call 85; exact Calls.quiet_of_same (specNameValid_q _ _ _ hts HB.out)))
            go_wp2_with fail
            go_ret
            exact ⟨ret_bool HF.out.symm, by (repeat' first | assumption | exact bel_refl _ | refine bel_al ?_ _ | refine bel_dr ?_ | refine bel_drN ?_ _ | refine bel_nx ?_ (by assumption) | (refine bel_set ?_ (by first | omega | (simp; omega)) _))⟩
          · have HO := Lib.hid (hprev.trans hc)
            have e1 : Op.bytesLess t'.toList t.toList = true := hc
            clear hprev hc
            go_wp2_with fail
            go_quiet ((go_at_call 85; exact Calls.quiet_of_same (specNameValid_q _ _ _ hts HB.out)))
            go_wp2_with fail
            go_roundw
            case rel => exact ⟨j + 1 + 1, by omega, by go_num, Lib.hid (upto_ok H.out HO.out), kb.drN _, by (repeat' first | assumption | exact bel_refl _ | refine bel_al ?_ _ | refine bel_dr ?_ | refine bel_drN ?_ _ | refine bel_nx ?_ (by assumption) | (refine bel_set ?_ (by first | omega | (simp; omega)) _))⟩
            case measure => simp [intOf]; omega
    · have HA := Lib.hid (okAll_yes (ok := nameB) (lt := ltS) HL.out (fun j hj => H.out j (by omega)))
      obtain ⟨b1, hb1⟩ : ∃ x, nameB nm = x := ⟨_, rfl⟩
      have HB1 := Lib.hid hb1
      clear hb1
      go_wp2_with fail
      refine (specNameValid_b nm b1 _ hs HB1.out).mono ?_
      rintro e w1 ⟨rfl, rfl⟩
      cases b1
      · have HF := Lib.hid (stepB_no1 (af := af) HB1.out)
        go_wp2_with fail
        go_ret
        exact ⟨ret_bool HF.out.symm, hbr⟩
      obtain ⟨b3, hb3⟩ : ∃ x, inB af nm = x := ⟨_, rfl⟩
      have HB3 := Lib.hid hb3
      clear hb3
      go_wp2_with fail
      refine (l1At_b B m d af nm b3 _ (haf.bel hbr) HB3.out).mono ?_
      rintro e w2 ⟨z, rfl, hz3, rfl⟩
      cases b3
      · have hz3 : decide (z < 0) = true := hz3
        by_cases h4 : 4 < m
        · have HF := Lib.hid (stepB_no2 (nm := nm) (by rw [HL.out]; exact h4))
          have d4 : decide ((m : Int) ≤ 4) = false := decide_eq_false (by omega)
          go_wp2_with fail
          go_ret
          exact ⟨ret_bool HF.out.symm, hbr⟩
        · have HF := Lib.hid (stepB_yes HB1.out (by rw [HL.out]; omega) HA.out HB3.out)
          have d4 : decide ((m : Int) ≤ 4) = true := decide_eq_true (by omega)
          go_wp2_with fail
          go_ret
          exact ⟨ret_bool HF.out.symm, hbr⟩
      · have hz3 : decide (z < 0) = false := hz3
        have HF := Lib.hid (stepB_no4 HB3.out)
        go_wp2_with fail
        go_ret
        exact ⟨ret_bool HF.out.symm, hbr⟩

/-- The order, k steps long or as far as it goes. -/
def orderN (l : List Stp) : Nat → List ByteArray
  | 0 => []
  | k + 1 => match readyP l (orderN l k) with | [] => orderN l k | x :: _ => orderN l k ++ [x]
def orderP (l : List Stp) : List ByteArray := orderN l l.length
theorem orderN_stay {l : List Stp} {k : Nat} (h : readyP l (orderN l k) = []) : ∀ d, orderN l (k + d) = orderN l k
  | 0 => rfl
  | d + 1 => by
    have ih := orderN_stay h d
    show (match readyP l (orderN l (k + d)) with | [] => orderN l (k + d) | x :: _ => orderN l (k + d) ++ [x]) = _
    rw [ih, h]
theorem orderN_go {l : List Stp} {k : Nat} {x : ByteArray} {r : List ByteArray} (h : readyP l (orderN l k) = x :: r) : orderN l (k + 1) = orderN l k ++ [x] := by
  show (match readyP l (orderN l k) with | [] => orderN l k | x :: _ => orderN l k ++ [x]) = _
  rw [h]
theorem readyP_mem {l : List Stp} {done : List ByteArray} {x : ByteArray} (h : x ∈ readyP l done) : ∃ p ∈ l, p.name = x ∧ inB done x = false ∧ haveB done p.after = true := by
  unfold readyP at h
  obtain ⟨p, hp, rfl⟩ := List.mem_map.1 h
  rw [List.mem_filter] at hp
  simp only [Bool.and_eq_true, Bool.not_eq_true'] at hp
  exact ⟨p, hp.1, rfl, hp.2.1, hp.2.2⟩
theorem orderN_good (l : List Stp) : ∀ k, (orderN l k).Nodup ∧ ∀ x ∈ orderN l k, x ∈ namesP l
  | 0 => by simp [orderN]
  | k + 1 => by
    obtain ⟨h1, h2⟩ := orderN_good l k
    cases h : readyP l (orderN l k) with
    | nil => rw [show orderN l (k + 1) = orderN l k from orderN_stay h 1]; exact ⟨h1, h2⟩
    | cons x r =>
      rw [orderN_go h]
      obtain ⟨p, hp, hpx, hn, _⟩ := readyP_mem (x := x) (by rw [h]; simp)
      refine ⟨?_, fun y hy => ?_⟩
      · rw [List.nodup_append]
        refine ⟨h1, by simp, fun a ha b hb => ?_⟩
        simp at hb
        subst hb
        exact fun e => inB_no hn (e ▸ ha)
      · rcases List.mem_append.1 hy with h0 | h0
        · exact h2 y h0
        · simp at h0
          subst h0
          exact List.mem_map.2 ⟨p, hp, hpx⟩
theorem nodup_le {α : Type} [DecidableEq α] : ∀ {l m : List α}, l.Nodup → (∀ x ∈ l, x ∈ m) → l.length ≤ m.length
  | [], _, _, _ => Nat.zero_le _
  | x :: l, m, hn, hs => by
    rw [List.nodup_cons] at hn
    have hx : x ∈ m := hs x (by simp)
    have := nodup_le (l := l) (m := m.erase x) hn.2 (fun y hy => by
      have hne : y ≠ x := fun e => hn.1 (e ▸ hy)
      exact (List.mem_erase_of_ne hne).2 (hs y (by simp [hy])))
    rw [List.length_erase_of_mem hx] at this
    have hpos : 0 < m.length := List.length_pos_of_mem hx
    simp only [List.length_cons]
    omega
theorem orderN_len (l : List Stp) (k : Nat) : (orderN l k).length ≤ l.length := by
  obtain ⟨h1, h2⟩ := orderN_good l k
  have := nodup_le h1 h2
  simpa [namesP] using this
theorem orderP_of {l : List Stp} {k : Nat} (hk : k ≤ l.length) (h : readyP l (orderN l k) = []) : orderP l = orderN l k := by
  unfold orderP
  obtain ⟨d, hd⟩ := Nat.exists_eq_add_of_le hk
  rw [hd, orderN_stay h]

set_option maxRecDepth 20000 in
set_option maxHeartbeats 1000000 in
theorem order_c (v : Int) (A : Option Addr) (n c : Nat) (l : List Stp) (w : World) (h : SlP w A n c l) (hn : n ≤ 1048576) : Calls Try.prog 73 #[.agg #[.int .i64 v, .slice A n c]] w fun e w' =>
    ∃ D dn dc, e = .returned (.slice D dn dc) ∧ w'.ownsRow w.heap.size 9 1 (.slice D dn dc) dn ((orderP l).map Value.string) ∧ Below w.heap.size w w' := by
  obtain ⟨i0, hi0, hz0, hz1, hz2⟩ := info_parts str_info
  have HL := Lib.hid h.len
  have hcap := h.cap
  have hmax := h.max
  have kf := Blk.new w 25 #[.int .i64 v, .slice A n c]
  have hW := bel_al (bel_refl w) (.cells #[.int .i64 v, .slice A n c] 25)
  go_enter Try.func73, Try.ntmps73
  go_wp2_with fail
  go_loopw [3] (fun dv wr => ∃ (k dc : Nat) (D : Option Addr), k ≤ n ∧ dv = .slice D k dc ∧ wr.ownsRow (w.heap.size + 1) 9 1 (.slice D k dc) k ((orderN l k).map Value.string) ∧ Blk wr w.heap.size 25 #[.int .i64 v, .slice A n c] ∧ Below w.heap.size w wr) (fun dv _ => n - (lenOf dv).toNat)
  case atStart => exact ⟨0, 0, none, Nat.zero_le _, rfl, World.ownsRow_nil _ _ _ _, kf, hW⟩
  case round =>
    obtain ⟨k, dc, D, hk, rfl, hD, kf, hbr⟩ := hrel
    have hsz := hbr.size
    have hkl := kf.lt
    have cf := kf.cell
    go_wp2_with fail
    refine (ready_c v A n c l D k dc (orderN l k) _ (h.bel hbr) (SlS.of_own hD) hn).mono ?_
    rintro e w2 ⟨E, en, ec, rfl, hE, hb2⟩
    have hD2 := own_bel hD hb2
    have kf2 := kf.bel hb2
    have hbr2 := bel_nx hbr hb2
    have hen := own_countS hE
    cases hr : readyP l (orderN l k) with
    | nil =>
      have HO := Lib.hid (orderP_of (by rw [HL.out]; exact hk) hr)
      rw [hr] at hen
      have e0 : en = 0 := hen
      subst e0
      clear hen hr
      go_wp2_with fail
      go_ret
      rw [HO.out]
      exact ⟨D, k, dc, rfl, ownsRow_base hD2 (by omega), hbr2⟩
    | cons x r =>
      have hgo := orderN_go hr
      have HG := Lib.hid hgo
      have hlt : k < n := by
        have h1 := orderN_len l (k + 1)
        have h2 := own_countS hD
        rw [hgo, HL.out] at h1
        simp at h1
        omega
      obtain ⟨b, off, t, hA, hx, hc0⟩ := SlS.get (SlS.of_own hE) (i := 0) (by rw [hen, hr]; simp)
      obtain ⟨g, cap, hA2, _, _⟩ := hE.form (by rw [hen, hr]; simp)
      obtain ⟨rfl, _, rfl⟩ := slice_inj hA2
      cases hA
      rw [hr] at hx
      simp at hx
      subst hx
      have e1 : ((en : Int) == 0) = false := by rw [hen, hr]; simp; omega
      have e2 : 0 < en := by rw [hen, hr]; simp
      have e3 : (0 : Int) < (en : Int) := by omega
      have hz2' := hbr2.size
      have hkl2 := kf2.lt
      simp only [Nat.add_zero] at hc0
      clear hen hr hgo
      go_wp2_with (at_builtin; refine wpList_append_sl (enc := encS) rfl _ _ 28 rfl (w.heap.size + 1) 9 i0 (.string ByteArray.empty) 1 16 Try.underlying28 hi0 hz0 hz1 hz2 rfl (by decide) (.slice D k dc) k ((orderN l k).map Value.string) rfl (hD2.alloc _) (some ⟨w2.heap.size, 0, none⟩) 1 1 [x] rfl (fun _ => rfl) (Sl.one (Blk.new _ _ _)) one_S (by unfold maxLen; omega) (by omega) (by simp; omega) ?_; intro v5 w5 ho5 hg5 hl5; obtain ⟨A5, c5, rfl⟩ := own_form ho5; rw [flat_encS, ← List.map_append] at ho5)
      have hg := (World.grownBy_alloc w2 _ _).trans hg5
      go_roundw
      case rel => exact ⟨k + 1, c5, A5, hlt, rfl, by rw [HG.out]; exact ho5, kf2.gr hg (fun e => by have := (hD2.lt _ e.symm).1; omega), hbr2.grown hg hbr2.size (fun q hq => by have := (hD2.lt q hq).1; omega)⟩
      case measure => simp [lenOf]; omega

theorem nextP_ne {l : List Stp} {done : List ByteArray} (hne : ∀ p ∈ l, p.name ≠ ⟨#[]⟩) : (nextP l done = ⟨#[]⟩ ∧ readyP l done = []) ∨ (nextP l done ≠ ⟨#[]⟩ ∧ ∃ r, readyP l done = nextP l done :: r) := by
  cases h : readyP l done with
  | nil => exact .inl ⟨nextP_none h, rfl⟩
  | cons x r =>
    have hx : nextP l done = x := by simp [nextP, h]
    obtain ⟨p, hp, hpx, _⟩ := readyP_mem (x := x) (l := l) (done := done) (by rw [h]; simp)
    refine .inr ⟨by rw [hx, ← hpx]; exact hne p hp, r, by rw [hx]⟩

set_option maxRecDepth 20000 in
set_option maxHeartbeats 1000000 in
theorem l2Order_c (A : Option Addr) (n c : Nat) (l : List Stp) (w : World) (h : SlP w A n c l) (hn : n ≤ 1048576) (hne : ∀ p ∈ l, p.name ≠ ⟨#[]⟩) : Calls Try.prog 59 #[.slice A n c] w fun e w' =>
    ∃ D dn dc, e = .returned (.slice D dn dc) ∧ w'.ownsRow w.heap.size 9 1 (.slice D dn dc) dn ((orderP l).map Value.string) ∧ Below w.heap.size w w' := by
  obtain ⟨i0, hi0, hz0, hz1, hz2⟩ := info_parts str_info
  have HL := Lib.hid h.len
  have HNE := Lib.hid hne
  clear hne
  have hcap := h.cap
  have hmax := h.max
  have hrow := World.ownsRow_lit (size := 1) (e := 9) w #[] 0 (Nat.le_refl _) (by unfold maxLen; omega) rfl
  have hW := bel_al (bel_refl w) (.cells #[] 9)
  go_enter Try.func59, Try.ntmps59
  go_wp2_with fail
  go_loopw [3, 4] (fun dv iv wr => ∃ (k dn dc : Nat) (D : Option Addr), k ≤ n ∧ iv = .int .i64 (k : Int) ∧ dv = .slice D dn dc ∧ wr.ownsRow w.heap.size 9 1 (.slice D dn dc) dn ((orderN l k).map Value.string) ∧ dn ≤ k ∧ Below w.heap.size w wr) (fun _ iv _ => n - (intOf iv).toNat)
  case atStart => exact ⟨0, 0, _, _, Nat.zero_le _, rfl, rfl, hrow, Nat.le_refl _, hW⟩
  case round =>
    obtain ⟨k, dn, dc, D, hk, rfl, rfl, hD, hdn, hbr⟩ := hrel
    have hsz := hbr.size
    by_cases hlt : k < n
    · go_wp2_with fail
      refine (l2Next_c A n c l D dn dc (orderN l k) _ (h.bel hbr) (SlS.of_own hD)).mono ?_
      rintro e w2 ⟨rfl, rfl⟩
      obtain ⟨x, hx⟩ : ∃ x, nextP l (orderN l k) = x := ⟨_, rfl⟩
      rcases nextP_ne (done := orderN l k) HNE.out with ⟨h1, h2⟩ | ⟨h1, r, h2⟩
      · have HS := Lib.hid (orderN_stay h2 1)
        rw [h1]
        have e0 : ((⟨#[]⟩ : ByteArray).toList != (⟨#[]⟩ : ByteArray).toList) = false := by simp
        clear h1 h2 hx
        go_wp2_with fail
        go_roundw
        case rel => exact ⟨k + 1, dn, dc, D, by omega, by go_num, rfl, by rw [HS.out]; exact hD, by omega, hbr⟩
        case measure => simp [intOf]; omega
      · rw [hx] at h1 h2 ⊢
        have HG := Lib.hid (orderN_go h2)
        have e0 : (x.toList == (⟨#[]⟩ : ByteArray).toList) = false := beqS_no h1
        have e1 : (x.toList != (⟨#[]⟩ : ByteArray).toList) = true := by rw [bne, e0]; rfl
        have e00 : (x.toList == []) = false := by simpa using e0
        have e11 : (x.toList != []) = true := by rw [bne, e00]; rfl
        have HX1 := Lib.hid h1
        clear h1 h2 hx
        go_wp2_with (at_builtin; refine wpList_append_sl (enc := encS) rfl _ _ 28 rfl w.heap.size 9 i0 (.string ByteArray.empty) 1 16 Try.underlying28 hi0 hz0 hz1 hz2 rfl (by decide) (.slice D dn dc) dn ((orderN l k).map Value.string) rfl (hD.alloc _) (some ⟨wr.heap.size, 0, none⟩) 1 1 [x] rfl (fun _ => rfl) (Sl.one (Blk.new _ _ _)) one_S (by unfold maxLen; omega) (by omega) (by simp; omega) ?_; intro v5 w5 ho5 hg5 hl5; obtain ⟨A5, c5, rfl⟩ := own_form ho5; rw [flat_encS, ← List.map_append] at ho5)
        have hg := (World.grownBy_alloc wr _ _).trans hg5
        go_roundw
        case rel => exact ⟨k + 1, dn + 1, c5, A5, by omega, by go_num, rfl, by rw [HG.out]; exact ho5, by omega, hbr.grown hg hsz (fun q hq => (hD.lt q hq).1)⟩
        case measure => simp [intOf]; omega
    · obtain rfl : k = n := by omega
      have hO : orderN l k = orderP l := by unfold orderP; rw [HL.out]
      rw [hO] at hD
      go_wp2_with fail
      go_ret
      exact ⟨D, dn, dc, rfl, hD, hbr⟩

end Go.Proofs.Ytdchfiiaollheaa
