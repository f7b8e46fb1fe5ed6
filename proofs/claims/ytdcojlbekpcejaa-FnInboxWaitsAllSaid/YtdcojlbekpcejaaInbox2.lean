/- An inbox is valid: the walk over the reference's InboxValid. -/
import Derived.Test.YtdcojlbekpcejaaInbox
namespace Go.Proofs.Ytdcojlbekpcejaa
open Go.RowKit

theorem l6In_b (n lo hi : Int) (b : Bool) (w : World) (hb : (decide (lo ≤ n) && decide (n ≤ hi)) = b) : Calls Try.prog 41 #[.int .i64 n, .int .i64 lo, .int .i64 hi] w fun e w' => e = .returned (.bool b) ∧ w' = w := by
  have HB := Lib.hid hb
  clear hb
  by_cases h1 : lo ≤ n
  all_goals by_cases h2 : n ≤ hi
  all_goals
    go_enter Try.func41, Try.ntmps41
    go_wp2
    go_ret
    exact ⟨ret_bool (by rw [← HB.out]; simp [h1, h2]), rfl⟩

set_option maxHeartbeats 2000000 in
theorem specInboxValid_c (a : Int) (A : Option Addr) (n c : Nat) (l : List Int) (w : World) (h : SlI w A n c l) (ha : -9223372036854775808 ≤ a) (ha2 : a ≤ 9223372036854775807) : Calls Try.prog 18 #[.agg #[.int .i64 a, .slice A n c]] w fun e w' =>
    e = .returned (.bool (inbB a l)) ∧ Below w.heap.size w w' := by
  have HL := Lib.hid h.len
  have hcap := h.cap
  have hmax := h.max
  obtain ⟨lo, hlo⟩ : ∃ lo : Int, IntKind.i64.wrap (a + 2) = lo := ⟨_, rfl⟩
  have HLO : Hid (0 ≤ a → a ≤ 999 → lo = a + 2) := Lib.hid (fun h0 h1 => by rw [← hlo]; exact IntWalk.i64_in _ (by omega))
  go_enter Try.func18, Try.ntmps18
  go_wp2_with fail
  go_loopw [3] (fun i wr => ∃ k : Nat, k ≤ n ∧ i = .int .i64 k ∧ Hid (0 ≤ a → a ≤ 999 → ∀ j, j < k → okAt (okN a) ltZ l j = true) ∧ Blk wr w.heap.size 25 #[.int .i64 a, .slice A n c] ∧ Below w.heap.size w wr) (fun i _ => n - (intOf i).toNat)
  case atStart => exact ⟨0, Nat.zero_le _, rfl, Lib.hid (fun _ _ j h => by omega), Blk.new _ _ _, by (repeat' first | exact bel_refl _ | refine bel_al ?_ _ | refine bel_dr ?_ | refine bel_drN ?_ _ | refine bel_nx ?_ (by assumption) | (refine bel_set ?_ (by first | omega | (simp; omega)) _))⟩
  case round =>
    obtain ⟨k, hk, rfl, H, hX, hbr⟩ := hrel
    have hxc := hX.cell
    by_cases hlt : k < n
    · obtain ⟨b, off, z, rfl, hx, hc0⟩ := SlI.get (h.bel hbr) hlt
      have HX := Lib.hid hx
      clear hx
      have i0 : (0 : Int) ≤ (k : Int) := by omega
      have i1 : (k : Int) < (n : Int) := by omega
      obtain ⟨q, hq⟩ : ∃ q, (decide (lo ≤ z) && decide (z ≤ 999)) = q := ⟨_, rfl⟩
      have HQ := Lib.hid hq
      clear hq
      cases q
      · have HF : Hid (inbB a l = false) := Lib.hid (by
          by_cases h0 : 0 ≤ a ∧ a ≤ 999
          · have e := HLO.out h0.1 h0.2
            have hq := HQ.out
            refine inb_no3 (by rw [HL.out]; exact hlt) (okAt_bad HX.out ?_)
            rw [e] at hq
            simp [okN] at *
            omega
          · exact inb_no1 (by omega))
        go_wp2_with fail
        go_quiet ((go_at_call 41; exact Calls.quiet_of_same (l6In_b _ _ _ _ _ HQ.out)))
        go_wp2_with fail
        go_ret
        exact ⟨ret_bool HF.out.symm, by (repeat' first | assumption | exact bel_refl _ | refine bel_al ?_ _ | refine bel_dr ?_ | refine bel_drN ?_ _ | refine bel_nx ?_ (by assumption) | (refine bel_set ?_ (by first | omega | (simp; omega)) _))⟩
      · have HO : Hid (0 ≤ a → a ≤ 999 → okN a z = true) := Lib.hid (fun h0 h1 => by
          have e := HLO.out h0 h1
          have hq := HQ.out
          rw [e] at hq
          simp [okN] at *
          omega)
        rcases Nat.eq_zero_or_pos k with rfl | hk0
        · simp only [Nat.add_zero] at hc0
          go_wp2_with fail
          go_quiet ((go_at_call 41; exact Calls.quiet_of_same (l6In_b _ _ _ _ _ HQ.out)))
          go_wp2_with fail
          go_roundw
          case rel => exact ⟨1, by omega, by go_num, Lib.hid (fun h0 h1 => upto_ok (k := 0) (H.out h0 h1) (okAt_zero HX.out (HO.out h0 h1))), hX, by (repeat' first | assumption | exact bel_refl _ | refine bel_al ?_ _ | refine bel_dr ?_ | refine bel_drN ?_ _ | refine bel_nx ?_ (by assumption) | (refine bel_set ?_ (by first | omega | (simp; omega)) _))⟩
          case measure => simp [intOf]; omega
        · obtain ⟨b', off', z', hA, hp, hp0⟩ := SlI.get (h.bel hbr) (i := k - 1) (by omega)
          cases hA
          have HP := Lib.hid hp
          clear hp
          have ek : ((k : Int) - 1).toNat = k - 1 := by omega
          have j0 : (0 : Int) ≤ (k : Int) - 1 := by omega
          have j1 : (k : Int) - 1 < (n : Int) := by omega
          have j2 : (0 : Int) < (k : Int) := by omega
          by_cases hzz : z ≤ z'
          · have dz : decide (z ≤ z') = true := decide_eq_true hzz
            have HF : Hid (inbB a l = false) := Lib.hid (by
              by_cases h0 : 0 ≤ a ∧ a ≤ 999
              · refine inb_no3 (by rw [HL.out]; exact hlt) ?_
                rw [okAt_prev HX.out (HO.out h0.1 h0.2) hk0 HP.out]
                simp [ltZ]; omega
              · exact inb_no1 (by omega))
            go_wp2_with fail
            go_quiet ((go_at_call 41; exact Calls.quiet_of_same (l6In_b _ _ _ _ _ HQ.out)))
            go_wp2_with fail
            go_ret
            exact ⟨ret_bool HF.out.symm, by (repeat' first | assumption | exact bel_refl _ | refine bel_al ?_ _ | refine bel_dr ?_ | refine bel_drN ?_ _ | refine bel_nx ?_ (by assumption) | (refine bel_set ?_ (by first | omega | (simp; omega)) _))⟩
          · have dz : decide (z ≤ z') = false := decide_eq_false hzz
            have hz1 : z' < z := by omega
            go_wp2_with fail
            go_quiet ((go_at_call 41; exact Calls.quiet_of_same (l6In_b _ _ _ _ _ HQ.out)))
            go_wp2_with fail
            go_roundw
            case rel => exact ⟨k + 1, by omega, by go_num, Lib.hid (fun h0 h1 => upto_ok (H.out h0 h1) (by rw [okAt_prev HX.out (HO.out h0 h1) hk0 HP.out]; simp [ltZ]; omega)), hX, by (repeat' first | assumption | exact bel_refl _ | refine bel_al ?_ _ | refine bel_dr ?_ | refine bel_drN ?_ _ | refine bel_nx ?_ (by assumption) | (refine bel_set ?_ (by first | omega | (simp; omega)) _))⟩
            case measure => simp [intOf]; omega
    · obtain rfl : k = n := by omega
      obtain ⟨q, hq⟩ : ∃ q, (decide (0 ≤ a) && decide (a ≤ 999)) = q := ⟨_, rfl⟩
      have HQ := Lib.hid hq
      clear hq
      go_wp2_with fail
      refine (l6In_b a 0 999 q _ HQ.out).mono ?_
      rintro e w2 ⟨rfl, rfl⟩
      cases q
      · have HF : Hid (inbB a l = false) := Lib.hid (inb_no1 (by have := HQ.out; simp at this; omega))
        go_wp2_with fail
        go_ret
        exact ⟨ret_bool HF.out.symm, hbr⟩
      · have hq := HQ.out
        have h0 : 0 ≤ a ∧ a ≤ 999 := by simp at hq; omega
        clear hq
        by_cases h6 : k ≤ 6
        · have d6 : decide ((k : Int) ≤ 6) = true := decide_eq_true (by omega)
          have HF := Lib.hid (inb_yes h0.1 h0.2 HL.out h6 (H.out h0.1 h0.2))
          go_wp2_with fail
          go_ret
          exact ⟨ret_bool HF.out.symm, hbr⟩
        · have d6 : decide ((k : Int) ≤ 6) = false := decide_eq_false (by omega)
          have HF := Lib.hid (inb_no2 (a := a) (l := l) (by rw [HL.out]; omega))
          go_wp2_with fail
          go_ret
          exact ⟨ret_bool HF.out.symm, hbr⟩

end Go.Proofs.Ytdcojlbekpcejaa
