/- The timers that are due: the walk over the reference's TimersDue. -/
import Derived.Test.YtpkakpldhlldeaaTimDue
import Derived.Test.YtpkakpldhlldeaaTimValidS
namespace Go.Proofs.Ytpkakpldhlldeaa
open Go.RowKit

set_option maxRecDepth 20000 in
set_option maxHeartbeats 2000000 in
theorem specTimersDue_c (A : Option Addr) (n c : Nat) (l : List R2) (t : Int) (w : World) (h : SlT w A n c l) (hz : SzT l) : Calls Try.prog 26 #[.slice A n c, .int .i64 t] w fun e w' =>
    ∃ D dn dc F fn fc, e = .returned (.tuple #[.slice D dn dc, .slice F fn fc, .bool (dueR l t).2.2]) ∧ w'.ownsRow w.heap.size 9 1 (.slice D dn dc) dn ((dueR l t).1.map Value.string) ∧
      w'.ownsRow w.heap.size 25 2 (.slice F fn fc) fn ((dueR l t).2.1.flatMap encT) ∧ dn ≤ n ∧ fn ≤ n ∧ Below w.heap.size w w' := by
  obtain ⟨i0, hi0, hz0, hz1, hz2⟩ := info_parts tim_info
  obtain ⟨j0, hj0, hy0, hy1, hy2⟩ := info_parts str_info
  have HL := Lib.hid h.len
  have hcap := h.cap
  have hmax := h.max
  go_enter Try.func26, Try.ntmps26
  go_wp2_with fail
  refine (specTimersValid_c A n c l _ ((h.al _).al _) hz).mono ?_
  rintro e w1 ⟨rfl, hb1⟩
  have hD0 : w1.ownsRow w.heap.size 9 1 (.slice (some ⟨w.heap.size, 0, none⟩) 0 0) 0 [] := own_bel ((World.ownsRow_lit (size := 1) (e := 9) w #[] 0 (Nat.le_refl _) (by unfold maxLen; omega) rfl).alloc _) hb1
  have hF0 : w1.ownsRow w.heap.size 25 2 (.slice (some ⟨w.heap.size + 1, 0, none⟩) 0 0) 0 [] := by
    have hh := ownsRow_base (World.ownsRow_lit (size := 2) (e := 25) (w.alloc (.cells #[] 9)) #[] 0 (Nat.le_refl _) (by unfold maxLen; omega) rfl) (B' := w.heap.size) (by simp)
    rw [show (w.alloc (.cells #[] 9)).heap.size = w.heap.size + 1 by simp] at hh
    exact own_bel hh hb1
  have hb1 : Below w.heap.size w w1 := bel_nx (bel_al (bel_al (bel_refl w) _) _) hb1
  cases hv : timB l
  · have HF := Lib.hid (dueR_no1 (t := t) hv)
    clear hv
    go_wp2_with fail
    go_ret3
    rw [HF.out]
    exact ⟨_, 0, 0, _, 0, 0, rfl, hD0, hF0, by omega, by omega, hb1⟩
  have hn8 : n ≤ 8 := by
    have := hv
    simp only [timB, Bool.and_eq_true, decide_eq_true_iff] at this
    have h8 := this.1.1
    rw [HL.out] at h8
    exact h8
  have HV := Lib.hid hv
  clear hv
  go_wp2_with fail
  obtain ⟨bt, hbt⟩ : ∃ q, decide (0 ≤ t ∧ t ≤ 9999) = q := ⟨_, rfl⟩
  refine (l6In_b t 0 9999 bt _ (by rw [← hbt, Bool.decide_and])).mono ?_
  rintro e w2 ⟨rfl, rfl⟩
  have HB := Lib.hid hbt
  clear hbt
  cases bt
  · have HF := Lib.hid (dueR_no2 (l := l) HB.out)
    go_wp2_with fail
    go_ret3
    rw [HF.out]
    exact ⟨_, 0, 0, _, 0, 0, rfl, hD0, hF0, by omega, by omega, hb1⟩
  have HF := Lib.hid (dueR_yes HV.out HB.out)
  go_wp2_with fail
  go_loopw [7, 8, 9] (fun dv fv iv wr => ∃ (k dn dc fn fc : Nat) (D F : Option Addr), k ≤ n ∧ iv = .int .i64 (k : Int) ∧ dv = .slice D dn dc ∧ fv = .slice F fn fc ∧ wr.ownsRow w.heap.size 9 1 (.slice D dn dc) dn ((dueF (l.take k) t).map Value.string) ∧ wr.ownsRow w.heap.size 25 2 (.slice F fn fc) fn ((leftF (l.take k) t).flatMap encT) ∧ dn ≤ k ∧ fn ≤ k ∧ Below w.heap.size w wr) (fun _ _ iv _ => n - (intOf iv).toNat)
  case atStart => exact ⟨0, 0, 0, 0, 0, _, _, Nat.zero_le _, rfl, rfl, rfl, hD0, hF0, Nat.le_refl _, Nat.le_refl _, hb1⟩
  case round =>
    obtain ⟨k, dn, dc, fn, fc, D, F, hk, rfl, rfl, rfl, hD, hF, hdk, hfk, hbr⟩ := hrel
    have hsz := hbr.size
    by_cases hlt : k < n
    · obtain ⟨b, off, x, s, rfl, hx, hc0, hc1⟩ := SlT.get (h.bel hbr) hlt
      have HX := Lib.hid hx
      clear hx
      have k0 : (0 : Int) ≤ (k : Int) := by omega
      have k1 : (k : Int) < (n : Int) := by omega
      by_cases hxt : x ≤ t
      · have dx : decide (x ≤ t) = true := decide_eq_true hxt
        obtain ⟨e1, e2⟩ := due_in HX.out hxt
        have E1 := Lib.hid e1
        have E2 := Lib.hid e2
        clear e1 e2
        go_wp2_with (at_builtin; refine wpList_append_sl (enc := encS) rfl _ _ 43 rfl w.heap.size 9 j0 (.string ByteArray.empty) 1 16 Try.underlying43 hj0 hy0 hy1 hy2 rfl (by decide) (.slice D dn dc) dn ((dueF (l.take k) t).map Value.string) rfl (hD.alloc _) (some ⟨wr.heap.size, 0, none⟩) 1 1 [s] rfl (fun _ => rfl) (Sl.one (Blk.new _ _ _)) one_S (by unfold maxLen; omega) (by omega) (by simp; omega) ?_; intro v5 w5 ho5 hg5 hl5; obtain ⟨A5, c5, rfl⟩ := own_form ho5; rw [flat_encS, ← List.map_append] at ho5)
        have hg := (World.grownBy_alloc wr _ _).trans hg5
        have hF5 := hF.kept hg (own_ne_own hF hD (by decide))
        go_roundw
        case rel => exact ⟨k + 1, dn + 1, c5, fn, fc, A5, F, by omega, by go_num, rfl, rfl, by rw [E1.out]; exact ho5, by rw [E2.out]; exact hF5, by omega, by omega, hbr.grown hg hsz (fun q hq => (hD.lt q hq).1)⟩
        case measure => simp [intOf]; omega
      · have dx : decide (x ≤ t) = false := decide_eq_false hxt
        obtain ⟨e1, e2⟩ := due_out HX.out hxt
        have E1 := Lib.hid e1
        have E2 := Lib.hid e2
        clear e1 e2
        go_wp2_with (at_builtin; refine wpList_append_sl (enc := encT) rfl _ _ 23 rfl w.heap.size 25 i0 (.agg #[.int .i64 0, .string ByteArray.empty]) 2 24 Try.underlying23 hi0 hz0 hz1 hz2 rfl (by decide) (.slice F fn fc) fn ((leftF (l.take k) t).flatMap encT) rfl (hF.alloc _) (some ⟨wr.heap.size, 0, none⟩) 1 1 [(x, s)] rfl (fun _ => rfl) (Sl.one (Blk.new _ _ _)) one_T (by unfold maxLen; omega) (by omega) (by simp; omega) ?_; intro v5 w5 ho5 hg5 hl5; obtain ⟨A5, c5, rfl⟩ := own_form ho5; rw [← List.flatMap_append] at ho5)
        have hg := (World.grownBy_alloc wr _ _).trans hg5
        have hD5 := hD.kept hg (own_ne_own hD hF (by decide))
        go_roundw
        case rel => exact ⟨k + 1, dn, dc, fn + 1, c5, D, A5, by omega, by go_num, rfl, rfl, by rw [E1.out]; exact hD5, by rw [E2.out]; exact ho5, by omega, by omega, hbr.grown hg hsz (fun q hq => (hF.lt q hq).1)⟩
        case measure => simp [intOf]; omega
    · have hkn : l.take k = l := List.take_of_length_le (by rw [HL.out]; omega)
      rw [hkn] at hD hF
      go_wp2_with fail
      go_ret3
      rw [HF.out]
      exact ⟨D, dn, dc, F, fn, fc, rfl, hD, hF, by omega, by omega, hbr⟩

end Go.Proofs.Ytpkakpldhlldeaa
