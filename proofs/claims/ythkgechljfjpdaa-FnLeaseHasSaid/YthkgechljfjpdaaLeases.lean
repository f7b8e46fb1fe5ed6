/- Leases are valid: the walks over the program's and the reference's LeasesValid. -/
import Derived.Test.YthkgechljfjpdaaRecs
import Derived.Test.YthkgechljfjpdaaNames
namespace Go.Proofs.Ythkgechljfjpdaa
open Go.RowKit

def okL (r : R3) : Bool := nameB r.1 && decide (1 ≤ r.2.1 ∧ r.2.1 ≤ 99) && decide (0 ≤ r.2.2 ∧ r.2.2 ≤ 19999)
def ltR (r r' : R3) : Bool := ltS r.1 r'.1
def leasesB (l : List R3) : Bool := okAll okL ltR l && decide (l.length ≤ 8)

theorem ltR_trans (a b c : R3) (h1 : ltR a b = true) (h2 : ltR b c = true) : ltR a c = true := ltS_trans h1 h2
theorem ltR_irrefl (a : R3) : ltR a a = false := ltS_irrefl _

theorem implNameValid_b (s : ByteArray) (b : Bool) (w : World) (hs : s.size ≤ 9223372036854775807) (hb : nameB s = b) : Calls Try.prog 35 #[.string s] w fun e w' => e = .returned (.bool b) ∧ w' = w :=
  (implNameValid_c s w hs).mono fun _ _ ⟨h1, h2⟩ => ⟨by rw [h1, hb], h2.symm⟩
theorem specNameValid_b (s : ByteArray) (b : Bool) (w : World) (hs : s.size ≤ 9223372036854775807) (hb : nameB s = b) : Calls Try.prog 36 #[.string s] w fun e w' => e = .returned (.bool b) ∧ w' = w :=
  (specNameValid_c s w hs).mono fun _ _ ⟨h1, h2⟩ => ⟨by rw [h1, hb], h2.symm⟩
theorem l6In_b (n lo hi : Int) (b : Bool) (w : World) (hb : (decide (lo ≤ n) && decide (n ≤ hi)) = b) : Calls Try.prog 37 #[.int .i64 n, .int .i64 lo, .int .i64 hi] w fun e w' => e = .returned (.bool b) ∧ w' = w :=
  (l6In_c n lo hi w).mono fun _ _ ⟨h1, h2⟩ => ⟨by rw [h1, hb], h2.symm⟩

/-- What the round at k finds out. -/
inductive Way (l : List R3) (k : Nat) (s : ByteArray) (x y : Int) : Prop
  | name (h : nameB s = false) (o : okAt okL ltR l k = false)
  | lo (h : nameB s = true) (h1 : x < 1) (o : okAt okL ltR l k = false)
  | hi (h : nameB s = true) (h0 : 1 ≤ x) (h1 : 99 < x) (o : okAt okL ltR l k = false)
  | early (h : nameB s = true) (h0 : 1 ≤ x) (h1 : x ≤ 99) (h2 : y < 0) (o : okAt okL ltR l k = false)
  | late (h : nameB s = true) (h0 : 1 ≤ x) (h1 : x ≤ 99) (h2 : 0 ≤ y) (h3 : 19999 < y) (o : okAt okL ltR l k = false)
  | zero (h : nameB s = true) (h0 : 1 ≤ x) (h1 : x ≤ 99) (h2 : 0 ≤ y) (h3 : y ≤ 19999) (hk : k = 0) (o : okAt okL ltR l k = true)
  | prev (h : nameB s = true) (h0 : 1 ≤ x) (h1 : x ≤ 99) (h2 : 0 ≤ y) (h3 : y ≤ 19999) (hk : 0 < k) (o : ∀ r, l[k - 1]? = some r → okAt okL ltR l k = ltS r.1 s)

theorem way {l : List R3} {k : Nat} {s : ByteArray} {x y : Int} (h : l[k]? = some (s, x, y)) : Way l k s x y := by
  cases hn : nameB s
  · exact .name hn (okAt_bad h (by simp [okL, hn]))
  by_cases h0 : x < 1
  · exact .lo hn h0 (okAt_bad h (by simp [okL]; omega))
  by_cases h1 : 99 < x
  · exact .hi hn (by omega) h1 (okAt_bad h (by simp [okL]; omega))
  by_cases h2 : y < 0
  · exact .early hn (by omega) (by omega) h2 (okAt_bad h (by simp [okL]; omega))
  by_cases h3 : 19999 < y
  · exact .late hn (by omega) (by omega) (by omega) h3 (okAt_bad h (by simp [okL]; omega))
  have ho : okL (s, x, y) = true := by simp [okL, hn]; omega
  rcases Nat.eq_zero_or_pos k with rfl | hk
  · exact .zero hn (by omega) (by omega) (by omega) (by omega) rfl (okAt_zero h ho)
  · exact .prev hn (by omega) (by omega) (by omega) (by omega) hk (fun r hr => okAt_prev h ho hk hr)

theorem leases_no {l : List R3} {k n : Nat} (hn : l.length = n) (hk : k < n) (o : okAt okL ltR l k = false) : leasesB l = false := by
  unfold leasesB; rw [okAll_no (by omega) o]; rfl
theorem leases_end {l : List R3} {n : Nat} (hn : l.length = n) (H : ∀ j, j < n → okAt okL ltR l j = true) : leasesB l = decide ((n : Int) ≤ 8) := by
  unfold leasesB; rw [okAll_yes hn H, hn, Bool.true_and, Bool.eq_iff_iff, decide_eq_true_iff, decide_eq_true_iff]; omega

set_option maxHeartbeats 2000000 in
theorem implLeasesValid_c (A : Option Addr) (n c : Nat) (l : List R3) (w : World) (h : SlR w A n c l) (hz : SzR l) : Calls Try.prog 16 #[.slice A n c] w fun e w' =>
    e = .returned (.bool (leasesB l)) ∧ Below w.heap.size w w' := by
  have HL := Lib.hid h.len
  have HZ := Lib.hid hz
  have hcap := h.cap
  have hmax := h.max
  clear hz
  go_enter Try.func16, Try.ntmps16
  go_wp2_with fail
  go_loopw [7] (fun i wr => ∃ k : Nat, k ≤ n ∧ i = .int .i64 k ∧ Hid (∀ j, j < k → okAt okL ltR l j = true) ∧ Below w.heap.size w wr) (fun i _ => n - (intOf i).toNat)
  case atStart => exact ⟨0, Nat.zero_le _, rfl, Lib.hid (fun j h => by omega), Below.refl _ _⟩
  case round =>
    obtain ⟨k, hk, rfl, H, hbr⟩ := hrel
    by_cases hlt : k < n
    · obtain ⟨b, off, s, x, y, rfl, hx, hc0, hc1, hc2⟩ := SlR.get (h.bel hbr) hlt
      have HX := Lib.hid hx
      have hsz := sz_at HZ.out hx
      have hW := way hx
      clear hx
      have i0 : (0 : Int) ≤ (k : Int) := by omega
      have i1 : (k : Int) < (n : Int) := by omega
      rcases hW with ⟨hn, o⟩ | ⟨hn, g1, o⟩ | ⟨hn, g0, g1, o⟩ | ⟨hn, g0, g1, g2, o⟩ | ⟨hn, g0, g1, g2, g3, o⟩ | ⟨hn, g0, g1, g2, g3, hk0, o⟩ | ⟨hn, g0, g1, g2, g3, hk0, o⟩
      · have HF := Lib.hid (leases_no HL.out hlt o)
        clear o
        have HN := Lib.hid hn
        clear hn
        go_wp2_with fail
        go_quiet ((go_at_call 35; exact Calls.quiet_of_same (implNameValid_b _ _ _ hsz HN.out)))
        go_wp2_with fail
        go_ret
        exact ⟨ret_bool HF.out.symm, by (repeat' first | assumption | exact bel_refl _ | refine bel_al ?_ _ | refine bel_dr ?_ | refine bel_drN ?_ _ | refine bel_nx ?_ (by assumption) | (refine bel_set ?_ (by first | omega | (simp; omega)) _))⟩
      · have HF := Lib.hid (leases_no HL.out hlt o)
        clear o
        have HN := Lib.hid hn
        clear hn
        have d1 : decide (x < 1) = true := by simp; omega
        clear g1
        go_wp2_with fail
        go_quiet ((go_at_call 35; exact Calls.quiet_of_same (implNameValid_b _ _ _ hsz HN.out)))
        go_wp2_with fail
        go_ret
        exact ⟨ret_bool HF.out.symm, by (repeat' first | assumption | exact bel_refl _ | refine bel_al ?_ _ | refine bel_dr ?_ | refine bel_drN ?_ _ | refine bel_nx ?_ (by assumption) | (refine bel_set ?_ (by first | omega | (simp; omega)) _))⟩
      · have HF := Lib.hid (leases_no HL.out hlt o)
        clear o
        have HN := Lib.hid hn
        clear hn
        have d1 : decide (x < 1) = false := by simp; omega
        have d2 : decide (99 < x) = true := by simp; omega
        clear g0 g1
        go_wp2_with fail
        go_quiet ((go_at_call 35; exact Calls.quiet_of_same (implNameValid_b _ _ _ hsz HN.out)))
        go_wp2_with fail
        go_ret
        exact ⟨ret_bool HF.out.symm, by (repeat' first | assumption | exact bel_refl _ | refine bel_al ?_ _ | refine bel_dr ?_ | refine bel_drN ?_ _ | refine bel_nx ?_ (by assumption) | (refine bel_set ?_ (by first | omega | (simp; omega)) _))⟩
      · have HF := Lib.hid (leases_no HL.out hlt o)
        clear o
        have HN := Lib.hid hn
        clear hn
        have d1 : decide (x < 1) = false := by simp; omega
        have d2 : decide (99 < x) = false := by simp; omega
        have d3 : decide (y < 0) = true := by simp; omega
        clear g0 g1 g2
        go_wp2_with fail
        go_quiet ((go_at_call 35; exact Calls.quiet_of_same (implNameValid_b _ _ _ hsz HN.out)))
        go_wp2_with fail
        go_ret
        exact ⟨ret_bool HF.out.symm, by (repeat' first | assumption | exact bel_refl _ | refine bel_al ?_ _ | refine bel_dr ?_ | refine bel_drN ?_ _ | refine bel_nx ?_ (by assumption) | (refine bel_set ?_ (by first | omega | (simp; omega)) _))⟩
      · have HF := Lib.hid (leases_no HL.out hlt o)
        clear o
        have HN := Lib.hid hn
        clear hn
        have d1 : decide (x < 1) = false := by simp; omega
        have d2 : decide (99 < x) = false := by simp; omega
        have d3 : decide (y < 0) = false := by simp; omega
        have d4 : decide (19999 < y) = true := by simp; omega
        clear g0 g1 g2 g3
        go_wp2_with fail
        go_quiet ((go_at_call 35; exact Calls.quiet_of_same (implNameValid_b _ _ _ hsz HN.out)))
        go_wp2_with fail
        go_ret
        exact ⟨ret_bool HF.out.symm, by (repeat' first | assumption | exact bel_refl _ | refine bel_al ?_ _ | refine bel_dr ?_ | refine bel_drN ?_ _ | refine bel_nx ?_ (by assumption) | (refine bel_set ?_ (by first | omega | (simp; omega)) _))⟩
      · subst hk0
        simp only [Nat.zero_mul, Nat.add_zero] at hc0 hc1 hc2
        have HO := Lib.hid o
        clear o
        have HN := Lib.hid hn
        clear hn
        have d1 : decide (x < 1) = false := by simp; omega
        have d2 : decide (99 < x) = false := by simp; omega
        have d3 : decide (y < 0) = false := by simp; omega
        have d4 : decide (19999 < y) = false := by simp; omega
        clear g0 g1 g2 g3
        go_wp2_with fail
        go_quiet ((go_at_call 35; exact Calls.quiet_of_same (implNameValid_b _ _ _ hsz HN.out)))
        go_wp2_with fail
        go_roundw
        case rel => exact ⟨1, by omega, by go_num, Lib.hid (upto_ok (k := 0) H.out HO.out), by (repeat' first | assumption | exact bel_refl _ | refine bel_al ?_ _ | refine bel_dr ?_ | refine bel_drN ?_ _ | refine bel_nx ?_ (by assumption) | (refine bel_set ?_ (by first | omega | (simp; omega)) _))⟩
        case measure => simp [intOf]; omega
      · have HN := Lib.hid hn
        clear hn
        have d1 : decide (x < 1) = false := by simp; omega
        have d2 : decide (99 < x) = false := by simp; omega
        have d3 : decide (y < 0) = false := by simp; omega
        have d4 : decide (19999 < y) = false := by simp; omega
        clear g0 g1 g2 g3
        obtain ⟨b', off', s', x', y', hA, hp, hp0, _, _⟩ := SlR.get (h.bel hbr) (i := k - 1) (by omega)
        cases hA
        have ho := o _ hp
        clear o hp
        have ek : ((k : Int) - 1).toNat = k - 1 := by omega
        have j0 : (0 : Int) ≤ (k : Int) - 1 := by omega
        have j1 : (k : Int) - 1 < (n : Int) := by omega
        have j2 : (0 : Int) < (k : Int) := by omega
        cases hc : ltS s' s
        · have HF := Lib.hid (leases_no HL.out hlt (ho.trans hc))
          have e1 : (Op.bytesLess s.toList s'.toList || s.toList == s'.toList) = true := leqS_of hc
          clear ho hc
          go_wp2_with fail
          go_quiet ((go_at_call 35; exact Calls.quiet_of_same (implNameValid_b _ _ _ hsz HN.out)))
          go_wp2_with fail
          go_ret
          exact ⟨ret_bool HF.out.symm, by (repeat' first | assumption | exact bel_refl _ | refine bel_al ?_ _ | refine bel_dr ?_ | refine bel_drN ?_ _ | refine bel_nx ?_ (by assumption) | (refine bel_set ?_ (by first | omega | (simp; omega)) _))⟩
        · have HO := Lib.hid (ho.trans hc)
          have e1 : Op.bytesLess s.toList s'.toList = false := ltS_asymm hc
          have e2 : (s.toList == s'.toList) = false := beqS_no (ltS_ne hc).symm
          clear ho hc
          go_wp2_with fail
          go_quiet ((go_at_call 35; exact Calls.quiet_of_same (implNameValid_b _ _ _ hsz HN.out)))
          go_wp2_with fail
          go_roundw
          case rel => exact ⟨k + 1, by omega, by go_num, Lib.hid (upto_ok H.out HO.out), by (repeat' first | assumption | exact bel_refl _ | refine bel_al ?_ _ | refine bel_dr ?_ | refine bel_drN ?_ _ | refine bel_nx ?_ (by assumption) | (refine bel_set ?_ (by first | omega | (simp; omega)) _))⟩
          case measure => simp [intOf]; omega
    · go_wp2_with fail
      go_ret
      exact ⟨ret_bool (leases_end HL.out (fun j hj => H.out j (by omega))).symm, hbr⟩

set_option maxHeartbeats 2000000 in
theorem specLeasesValid_c (A : Option Addr) (n c : Nat) (l : List R3) (w : World) (h : SlR w A n c l) (hz : SzR l) : Calls Try.prog 17 #[.slice A n c] w fun e w' =>
    e = .returned (.bool (leasesB l)) ∧ Below w.heap.size w w' := by
  have HL := Lib.hid h.len
  have HZ := Lib.hid hz
  have hcap := h.cap
  have hmax := h.max
  clear hz
  go_enter Try.func17, Try.ntmps17
  go_wp2_with fail
  go_loopw [3] (fun i wr => ∃ k : Nat, k ≤ n ∧ i = .int .i64 k ∧ Hid (∀ j, j < k → okAt okL ltR l j = true) ∧ Below w.heap.size w wr) (fun i _ => n - (intOf i).toNat)
  case atStart => exact ⟨0, Nat.zero_le _, rfl, Lib.hid (fun j h => by omega), Below.refl _ _⟩
  case round =>
    obtain ⟨k, hk, rfl, H, hbr⟩ := hrel
    by_cases hlt : k < n
    · obtain ⟨b, off, s, x, y, rfl, hx, hc0, hc1, hc2⟩ := SlR.get (h.bel hbr) hlt
      have HX := Lib.hid hx
      have hsz := sz_at HZ.out hx
      have hW := way hx
      clear hx
      have i0 : (0 : Int) ≤ (k : Int) := by omega
      have i1 : (k : Int) < (n : Int) := by omega
      rcases hW with ⟨hn, o⟩ | ⟨hn, g1, o⟩ | ⟨hn, g0, g1, o⟩ | ⟨hn, g0, g1, g2, o⟩ | ⟨hn, g0, g1, g2, g3, o⟩ | ⟨hn, g0, g1, g2, g3, hk0, o⟩ | ⟨hn, g0, g1, g2, g3, hk0, o⟩
      · have HF := Lib.hid (leases_no HL.out hlt o)
        clear o
        have HN := Lib.hid hn
        clear hn
        go_wp2_with fail
        go_quiet ((first | (go_at_call 36; exact Calls.quiet_of_same (specNameValid_b _ _ _ hsz HN.out)) | (go_at_call 37; exact Calls.quiet_of_same (l6In_b _ _ _ _ _ HX1.out)) | (go_at_call 37; exact Calls.quiet_of_same (l6In_b _ _ _ _ _ HV.out))))
        go_wp2_with fail
        go_ret
        exact ⟨ret_bool HF.out.symm, by (repeat' first | assumption | exact bel_refl _ | refine bel_al ?_ _ | refine bel_dr ?_ | refine bel_drN ?_ _ | refine bel_nx ?_ (by assumption) | (refine bel_set ?_ (by first | omega | (simp; omega)) _))⟩
      · have HF := Lib.hid (leases_no HL.out hlt o)
        clear o
        have HN := Lib.hid hn
        clear hn
        have HX1 := Lib.hid (show (decide (1 ≤ x) && decide (x ≤ 99)) = false by simp; omega)
        clear g1
        go_wp2_with fail
        go_quiet ((first | (go_at_call 36; exact Calls.quiet_of_same (specNameValid_b _ _ _ hsz HN.out)) | (go_at_call 37; exact Calls.quiet_of_same (l6In_b _ _ _ _ _ HX1.out)) | (go_at_call 37; exact Calls.quiet_of_same (l6In_b _ _ _ _ _ HV.out))))
        go_wp2_with fail
        go_ret
        exact ⟨ret_bool HF.out.symm, by (repeat' first | assumption | exact bel_refl _ | refine bel_al ?_ _ | refine bel_dr ?_ | refine bel_drN ?_ _ | refine bel_nx ?_ (by assumption) | (refine bel_set ?_ (by first | omega | (simp; omega)) _))⟩
      · have HF := Lib.hid (leases_no HL.out hlt o)
        clear o
        have HN := Lib.hid hn
        clear hn
        have HX1 := Lib.hid (show (decide (1 ≤ x) && decide (x ≤ 99)) = false by simp; omega)
        clear g0 g1
        go_wp2_with fail
        go_quiet ((first | (go_at_call 36; exact Calls.quiet_of_same (specNameValid_b _ _ _ hsz HN.out)) | (go_at_call 37; exact Calls.quiet_of_same (l6In_b _ _ _ _ _ HX1.out)) | (go_at_call 37; exact Calls.quiet_of_same (l6In_b _ _ _ _ _ HV.out))))
        go_wp2_with fail
        go_ret
        exact ⟨ret_bool HF.out.symm, by (repeat' first | assumption | exact bel_refl _ | refine bel_al ?_ _ | refine bel_dr ?_ | refine bel_drN ?_ _ | refine bel_nx ?_ (by assumption) | (refine bel_set ?_ (by first | omega | (simp; omega)) _))⟩
      · have HF := Lib.hid (leases_no HL.out hlt o)
        clear o
        have HN := Lib.hid hn
        clear hn
        have HX1 := Lib.hid (show (decide (1 ≤ x) && decide (x ≤ 99)) = true by simp; omega)
        have HV := Lib.hid (show (decide (0 ≤ y) && decide (y ≤ 19999)) = false by simp; omega)
        clear g0 g1 g2
        go_wp2_with fail
        go_quiet ((first | (go_at_call 36; exact Calls.quiet_of_same (specNameValid_b _ _ _ hsz HN.out)) | (go_at_call 37; exact Calls.quiet_of_same (l6In_b _ _ _ _ _ HX1.out)) | (go_at_call 37; exact Calls.quiet_of_same (l6In_b _ _ _ _ _ HV.out))))
        go_wp2_with fail
        go_ret
        exact ⟨ret_bool HF.out.symm, by (repeat' first | assumption | exact bel_refl _ | refine bel_al ?_ _ | refine bel_dr ?_ | refine bel_drN ?_ _ | refine bel_nx ?_ (by assumption) | (refine bel_set ?_ (by first | omega | (simp; omega)) _))⟩
      · have HF := Lib.hid (leases_no HL.out hlt o)
        clear o
        have HN := Lib.hid hn
        clear hn
        have HX1 := Lib.hid (show (decide (1 ≤ x) && decide (x ≤ 99)) = true by simp; omega)
        have HV := Lib.hid (show (decide (0 ≤ y) && decide (y ≤ 19999)) = false by simp; omega)
        clear g0 g1 g2 g3
        go_wp2_with fail
        go_quiet ((first | (go_at_call 36; exact Calls.quiet_of_same (specNameValid_b _ _ _ hsz HN.out)) | (go_at_call 37; exact Calls.quiet_of_same (l6In_b _ _ _ _ _ HX1.out)) | (go_at_call 37; exact Calls.quiet_of_same (l6In_b _ _ _ _ _ HV.out))))
        go_wp2_with fail
        go_ret
        exact ⟨ret_bool HF.out.symm, by (repeat' first | assumption | exact bel_refl _ | refine bel_al ?_ _ | refine bel_dr ?_ | refine bel_drN ?_ _ | refine bel_nx ?_ (by assumption) | (refine bel_set ?_ (by first | omega | (simp; omega)) _))⟩
      · subst hk0
        simp only [Nat.zero_mul, Nat.add_zero] at hc0 hc1 hc2
        have HO := Lib.hid o
        clear o
        have HN := Lib.hid hn
        clear hn
        have HX1 := Lib.hid (show (decide (1 ≤ x) && decide (x ≤ 99)) = true by simp; omega)
        have HV := Lib.hid (show (decide (0 ≤ y) && decide (y ≤ 19999)) = true by simp; omega)
        clear g0 g1 g2 g3
        go_wp2_with fail
        go_quiet ((first | (go_at_call 36; exact Calls.quiet_of_same (specNameValid_b _ _ _ hsz HN.out)) | (go_at_call 37; exact Calls.quiet_of_same (l6In_b _ _ _ _ _ HX1.out)) | (go_at_call 37; exact Calls.quiet_of_same (l6In_b _ _ _ _ _ HV.out))))
        go_wp2_with fail
        go_roundw
        case rel => exact ⟨1, by omega, by go_num, Lib.hid (upto_ok (k := 0) H.out HO.out), by (repeat' first | assumption | exact bel_refl _ | refine bel_al ?_ _ | refine bel_dr ?_ | refine bel_drN ?_ _ | refine bel_nx ?_ (by assumption) | (refine bel_set ?_ (by first | omega | (simp; omega)) _))⟩
        case measure => simp [intOf]; omega
      · have HN := Lib.hid hn
        clear hn
        have HX1 := Lib.hid (show (decide (1 ≤ x) && decide (x ≤ 99)) = true by simp; omega)
        have HV := Lib.hid (show (decide (0 ≤ y) && decide (y ≤ 19999)) = true by simp; omega)
        clear g0 g1 g2 g3
        obtain ⟨b', off', s', x', y', hA, hp, hp0, _, _⟩ := SlR.get (h.bel hbr) (i := k - 1) (by omega)
        cases hA
        have ho := o _ hp
        clear o hp
        have ek : ((k : Int) - 1).toNat = k - 1 := by omega
        have j0 : (0 : Int) ≤ (k : Int) - 1 := by omega
        have j1 : (k : Int) - 1 < (n : Int) := by omega
        have j2 : (0 : Int) < (k : Int) := by omega
        cases hc : ltS s' s
        · have HF := Lib.hid (leases_no HL.out hlt (ho.trans hc))
          have e1 : Op.bytesLess s'.toList s.toList = false := hc
          clear ho hc
          go_wp2_with fail
          go_quiet ((first | (go_at_call 36; exact Calls.quiet_of_same (specNameValid_b _ _ _ hsz HN.out)) | (go_at_call 37; exact Calls.quiet_of_same (l6In_b _ _ _ _ _ HX1.out)) | (go_at_call 37; exact Calls.quiet_of_same (l6In_b _ _ _ _ _ HV.out))))
          go_wp2_with fail
          go_ret
          exact ⟨ret_bool HF.out.symm, by (repeat' first | assumption | exact bel_refl _ | refine bel_al ?_ _ | refine bel_dr ?_ | refine bel_drN ?_ _ | refine bel_nx ?_ (by assumption) | (refine bel_set ?_ (by first | omega | (simp; omega)) _))⟩
        · have HO := Lib.hid (ho.trans hc)
          have e1 : Op.bytesLess s'.toList s.toList = true := hc
          clear ho hc
          go_wp2_with fail
          go_quiet ((first | (go_at_call 36; exact Calls.quiet_of_same (specNameValid_b _ _ _ hsz HN.out)) | (go_at_call 37; exact Calls.quiet_of_same (l6In_b _ _ _ _ _ HX1.out)) | (go_at_call 37; exact Calls.quiet_of_same (l6In_b _ _ _ _ _ HV.out))))
          go_wp2_with fail
          go_roundw
          case rel => exact ⟨k + 1, by omega, by go_num, Lib.hid (upto_ok H.out HO.out), by (repeat' first | assumption | exact bel_refl _ | refine bel_al ?_ _ | refine bel_dr ?_ | refine bel_drN ?_ _ | refine bel_nx ?_ (by assumption) | (refine bel_set ?_ (by first | omega | (simp; omega)) _))⟩
          case measure => simp [intOf]; omega
    · go_wp2_with fail
      go_ret
      exact ⟨ret_bool (leases_end HL.out (fun j hj => H.out j (by omega))).symm, hbr⟩

end Go.Proofs.Ythkgechljfjpdaa
