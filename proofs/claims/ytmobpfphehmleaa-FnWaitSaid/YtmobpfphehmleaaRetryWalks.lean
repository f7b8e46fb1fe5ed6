/- The walks over the functions on policies, waits and tries. -/
import Derived.Test.YtmobpfphehmleaaBase
import Derived.Test.YtmobpfphehmleaaRetryPlain
namespace Go.Proofs.Ytmobpfphehmleaa
open Go.RowKit

theorem l6In_c (n lo hi : Int) (w : World) : Calls Try.prog 28 #[.int .i64 n, .int .i64 lo, .int .i64 hi] w fun e w' => e = .returned (.bool (decide (lo ≤ n) && decide (n ≤ hi))) ∧ w = w' := by
  by_cases h1 : lo ≤ n
  all_goals by_cases h2 : n ≤ hi
  all_goals
    go_enter Try.func28, Try.ntmps28
    go_wp2
    go_ret
    exact ⟨by simp [h1, h2], rfl⟩

theorem toPolicy_c (t f m : Int) (w : World) : Calls Try.prog 16 #[.agg #[.int .i64 t, .int .i64 f, .int .i64 m]] w fun e w' => e = .returned (.agg #[.int .i64 t, .int .i64 f, .int .i64 m]) ∧ Below w.heap.size w w' := by
  go_enter Try.func16, Try.ntmps16
  go_wp2
  refine bodyPost_ret (v := .agg #[.int .i64 t, .int .i64 f, .int .i64 m]) (by simp [results, Try.results16, go_sem]) rfl ⟨rfl, ?_⟩
  exact (((Below.refl _ _).alloc (Nat.le_refl _) _).alloc (by simp) _).alloc (by simp; omega) _

theorem implPolicyValid_c (t f m : Int) (w : World) : Calls Try.prog 17 #[.agg #[.int .i64 t, .int .i64 f, .int .i64 m]] w fun e w' => e = .returned (.bool (polB t f m)) ∧ Below w.heap.size w w' := by
  go_enter Try.func17, Try.ntmps17
  go_wp2
  all_goals
    go_ret
    exact ⟨ret_bool (by rw [Bool.eq_iff_iff, polB_iff]; simp; try omega), (Below.refl _ _).alloc (Nat.le_refl _) _⟩

theorem specPolicyValid_c (t f m : Int) (w : World) : Calls Try.prog 15 #[.agg #[.int .i64 t, .int .i64 f, .int .i64 m]] w fun e w' => e = .returned (.bool (polB t f m)) ∧ Below w.heap.size w w' := by
  go_enter Try.func15, Try.ntmps15
  go_wp2
  all_goals
    go_ret
    exact ⟨ret_bool (by rw [Bool.eq_iff_iff, polB_iff]; simp; try omega), (Below.refl _ _).alloc (Nat.le_refl _) _⟩

set_option maxHeartbeats 400000 in
theorem l16Wait_c (t f m x : Int) (w : World) (hv : polB t f m = true) (h1 : 1 ≤ x) (h8 : x ≤ 8) : Calls Try.prog 31 #[.agg #[.int .i64 t, .int .i64 f, .int .i64 m], .int .i64 x] w fun e w' => e = .returned (.int .i64 (wt f m (x.toNat - 1))) ∧ Below w.heap.size w w' := by
  obtain ⟨p1, p2, p3, p4, p5, p6⟩ := polB_iff.1 hv
  clear hv
  go_enter Try.func31, Try.ntmps31
  go_wp2
  go_loop [5, 6] (fun v i => ∃ k : Nat, 1 ≤ k ∧ (k : Int) ≤ x ∧ i = .int .i64 k ∧ v = .int .i64 (wt f m (k - 1))) (fun _ i => (x - intOf i).toNat)
  case atStart => exact ⟨1, Nat.le_refl _, by omega, rfl, rfl⟩
  case round =>
    obtain ⟨k, hk1, hk2, rfl, rfl⟩ := hrel
    have hb := wt_bd p3 p5 p6 (k - 1)
    by_cases hlt : (k : Int) < x
    · go_wp2
      go_round
      case rel => exact ⟨k + 1, by omega, by omega, by go_num, by rw [wt_next f m k hk1]⟩
      case measure => simp [intOf]; omega
    · go_wp2
      go_ret
      exact ⟨ret_int (by congr 1; omega), (Below.refl _ _).alloc (Nat.le_refl _) _⟩

theorem specRetryWait_c (t f m x : Int) (w : World) : Calls Try.prog 19 #[.agg #[.int .i64 t, .int .i64 f, .int .i64 m], .int .i64 x] w fun e w' => e = .returned (.int .i64 (waitF t f m x)) ∧ Below w.heap.size w w' := by
  cases hv : polB t f m
  · have hfin : waitF t f m x = -1 := by simp [waitF, hv]
    go_enter Try.func19, Try.ntmps19
    go_wp2_with (go_at_call 15; refine (specPolicyValid_c _ _ _ _).mono ?_; rintro e w1 ⟨rfl, hb1⟩)
    go_ret
    exact ⟨ret_int (by first | rfl | exact hfin.symm), ((Below.refl _ _).alloc (Nat.le_refl _) _).trans (hb1.mono (by simp))⟩
  · have HV := Lib.hid hv
    obtain ⟨p1, p2, p3, p4, p5, p6⟩ := polB_iff.1 hv
    by_cases hx : 1 ≤ x ∧ x < t
    · obtain ⟨h1, h2⟩ := hx
      have hfin : waitF t f m x = wt f m (x.toNat - 1) := by simp [waitF, hv, h1, h2]
      have hd : decide (x ≤ t - 1) = true := by simp; omega
      go_enter Try.func19, Try.ntmps19
      go_wp2_with (first
        | (go_at_call 15; refine (specPolicyValid_c _ _ _ _).mono ?_; rintro e w1 ⟨rfl, hb1⟩; obtain ⟨hc1, hf1⟩ := bcell hb1 (by simp))
        | (go_at_call 28; refine (l6In_c _ _ _ _).mono ?_; rintro e w2 ⟨rfl, rfl⟩)
        | (go_at_call 31; refine (l16Wait_c _ _ _ _ _ HV.out (by omega) (by omega)).mono ?_; rintro e w2 ⟨rfl, hb2⟩))
      go_ret
      exact ⟨ret_int (by first | rfl | exact hfin.symm), (((Below.refl _ _).alloc (Nat.le_refl _) _).trans (hb1.mono (by simp))).trans (hb2.mono (by have := hb1.size; simp at this; omega))⟩
    · have hfin : waitF t f m x = -1 := by rw [waitF, if_neg (by rintro ⟨_, h1, h2⟩; exact hx ⟨h1, h2⟩)]
      have hd : (decide (1 ≤ x) && decide (x ≤ t - 1)) = false := by simp; omega
      go_enter Try.func19, Try.ntmps19
      go_wp2_with (first
        | (go_at_call 15; refine (specPolicyValid_c _ _ _ _).mono ?_; rintro e w1 ⟨rfl, hb1⟩; obtain ⟨hc1, hf1⟩ := bcell hb1 (by simp))
        | (go_at_call 28; refine (l6In_c _ _ _ _).mono ?_; rintro e w2 ⟨rfl, rfl⟩))
      go_ret
      exact ⟨ret_int (by first | rfl | exact hfin.symm), ((Below.refl _ _).alloc (Nat.le_refl _) _).trans (hb1.mono (by simp))⟩

set_option maxHeartbeats 400000 in
theorem specRetryAt_c (t f m x : Int) (w : World) : Calls Try.prog 21 #[.agg #[.int .i64 t, .int .i64 f, .int .i64 m], .int .i64 x] w fun e w' => e = .returned (.int .i64 (atF t f m x)) ∧ Below w.heap.size w w' := by
  cases hv : polB t f m
  · have hfin : atF t f m x = -1 := by simp [atF, hv]
    go_enter Try.func21, Try.ntmps21
    go_wp2_with (go_at_call 15; refine (specPolicyValid_c _ _ _ _).mono ?_; rintro e w1 ⟨rfl, hb1⟩)
    go_ret
    exact ⟨ret_int (by first | rfl | exact hfin.symm), ((Below.refl _ _).alloc (Nat.le_refl _) _).trans (hb1.mono (by simp))⟩
  · have HV := Lib.hid hv
    obtain ⟨p1, p2, p3, p4, p5, p6⟩ := polB_iff.1 hv
    by_cases hx : 1 ≤ x ∧ x ≤ t
    · obtain ⟨h1, h2⟩ := hx
      have hfin : atF t f m x = ats f m (x.toNat - 1) := by simp [atF, hv, h1, h2]
      go_enter Try.func21, Try.ntmps21
      go_wp2_with (first
        | (go_at_call 15; refine (specPolicyValid_c _ _ _ _).mono ?_; rintro e w1 ⟨rfl, hb1⟩; obtain ⟨hc1, hf1⟩ := bcell hb1 (by simp))
        | (go_at_call 28; refine (l6In_c _ _ _ _).mono ?_; rintro e w2 ⟨rfl, rfl⟩))
      go_loopw [5, 6] (fun v i wr => ∃ k : Nat, 1 ≤ k ∧ (k : Int) ≤ x ∧ i = .int .i64 k ∧ v = .int .i64 (ats f m (k - 1)) ∧ Below (w.alloc (.cells #[.int .i64 t, .int .i64 f, .int .i64 m] 25)).heap.size (w.alloc (.cells #[.int .i64 t, .int .i64 f, .int .i64 m] 25)) wr) (fun _ i _ => (x - intOf i).toNat)
      case atStart => exact ⟨1, Nat.le_refl _, by omega, rfl, rfl, hb1⟩
      case round =>
        clear hc1 hf1 hv
        obtain ⟨k, hk1, hk2, rfl, rfl, hbr⟩ := hrel
        have hb := wt_bd p3 p5 p6 (k - 1)
        have hat := ats_bd p3 p5 p6 (k - 1)
        obtain ⟨hc, hf⟩ := bcell hbr (by simp)
        by_cases hlt : (k : Int) < x
        · go_wp2_with (go_at_call 31; refine (l16Wait_c _ _ _ _ _ HV.out (by omega) (by omega)).mono ?_; rintro e w2 ⟨rfl, hb2⟩)
          go_roundw
          case rel => exact ⟨k + 1, by omega, by omega, by go_num, by rw [ats_next f m k hk1], hbr.trans (hb2.mono hbr.size)⟩
          case measure => simp [intOf]; omega
        · go_wp2
          go_ret
          exact ⟨ret_int (by congr 1; omega), ((Below.refl _ _).alloc (Nat.le_refl _) _).trans (hbr.mono (by simp))⟩
    · have hfin : atF t f m x = -1 := by rw [atF, if_neg (by rintro ⟨_, h1, h2⟩; exact hx ⟨h1, h2⟩)]
      have hd : (decide (1 ≤ x) && decide (x ≤ t)) = false := by simp; omega
      go_enter Try.func21, Try.ntmps21
      go_wp2_with (first
        | (go_at_call 15; refine (specPolicyValid_c _ _ _ _).mono ?_; rintro e w1 ⟨rfl, hb1⟩; obtain ⟨hc1, hf1⟩ := bcell hb1 (by simp))
        | (go_at_call 28; refine (l6In_c _ _ _ _).mono ?_; rintro e w2 ⟨rfl, rfl⟩))
      go_ret
      exact ⟨ret_int (by first | rfl | exact hfin.symm), ((Below.refl _ _).alloc (Nat.le_refl _) _).trans (hb1.mono (by simp))⟩

theorem int_info : (Try.prog.info? 3).map (fun i => (i.zero, i.size, i.bytes)) = some (some (.int .i64 0), 1, 8) := by kernel_rfl

set_option maxHeartbeats 1000000 in
/-- The waits behind all tries but the last one. -/
theorem waits_c (t f m : Int) (w : World) (hv : polB t f m = true) : Calls Try.prog 32 #[.agg #[.int .i64 t, .int .i64 f, .int .i64 m]] w fun e w' =>
    ∃ v, e = .returned v ∧ w'.ownsRow w.heap.size 3 1 v (t.toNat - 1) ((wts f m (t.toNat - 1)).map (Value.int .i64)) ∧ Below w.heap.size w w' := by
  obtain ⟨p1, p2, p3, p4, p5, p6⟩ := polB_iff.1 hv
  clear hv
  obtain ⟨i0, hi0, hz0, hz1, hz2⟩ := info_parts int_info
  go_enter Try.func32, Try.ntmps32
  go_wp2
  go_loopw [3, 4] (fun s v wr => ∃ k : Nat, (k : Int) ≤ t - 1 ∧ v = .int .i64 (wt f m k) ∧ wr.ownsRow (w.heap.size + 1) 3 1 s k ((wts f m k).map (Value.int .i64)) ∧ (∃ a c, s = .slice a k c) ∧ Below (w.heap.size + 1) (w.alloc (.cells #[.int .i64 t, .int .i64 f, .int .i64 m] 25)) wr) (fun s _ _ => (t - 1 - lenOf s).toNat)
  case atStart => exact ⟨0, by omega, rfl, World.ownsRow_nil _ _ _ _, ⟨_, _, rfl⟩, Below.refl _ _⟩
  case round =>
    obtain ⟨k, hk1, rfl, hown, ⟨a, c, rfl⟩, hbr⟩ := hrel
    have hb := wt_bd p3 p5 p6 k
    obtain ⟨hc, hf⟩ := bcell hbr (by simp)
    have hz : w.heap.size + 1 ≤ wr.heap.size := by have := hbr.size; simpa using this
    by_cases hlt : (k : Int) < t - 1
    · go_wp2_with (at_builtin; refine wpList_append_own_at _ rfl _ _ 39 rfl (w.heap.size + 1) 3 i0 (.int .i64 0) 1 8 Try.underlying39 hi0 hz0 hz1 hz2 rfl (by decide) _ _ _ rfl (hown.alloc _) ⟨wr.heap.size, 0, none⟩ 1 1 [.int .i64 (wt f m k)] rfl rfl (cell_one_new _ _ _) (ints_oneCell .i64 [wt f m k]) (by unfold maxLen; omega) (by omega) (by simp; omega) ?_; intro v' w1 hown' hgrow hnil hloc; have hb1 := below_app hbr hz hown hgrow; obtain ⟨hc1, hf1⟩ := bcell hb1 (by simp))
      go_roundw
      case rel => exact ⟨k + 1, by omega, by rw [wt_succ], by rw [wts_snoc, List.map_append]; exact hown', own_form hown', hb1⟩
      case measure => obtain ⟨a', c', rfl⟩ := own_form hown'; simp [lenOf]; omega
    · go_wp2
      go_ret
      obtain rfl : k = t.toNat - 1 := by omega
      exact ⟨_, rfl, ownsRow_base hown (by omega), ((Below.refl _ _).alloc (Nat.le_refl _) _).trans (hbr.mono (by omega))⟩

set_option maxHeartbeats 400000 in
theorem implRetryWait_c (t f m x : Int) (w : World) : Calls Try.prog 20 #[.agg #[.int .i64 t, .int .i64 f, .int .i64 m], .int .i64 x] w fun e w' => e = .returned (.int .i64 (waitF t f m x)) ∧ Below w.heap.size w w' := by
  cases hv : polB t f m
  · have hfin : waitF t f m x = -1 := by simp [waitF, hv]
    go_enter Try.func20, Try.ntmps20
    go_wp2_with (go_at_call 17; refine (implPolicyValid_c _ _ _ _).mono ?_; rintro e w1 ⟨rfl, hb1⟩)
    go_ret
    exact ⟨ret_int (by first | rfl | exact hfin.symm), ((Below.refl _ _).alloc (Nat.le_refl _) _).trans (hb1.mono (by simp))⟩
  · have HV := Lib.hid hv
    obtain ⟨p1, p2, p3, p4, p5, p6⟩ := polB_iff.1 hv
    by_cases hx : 1 ≤ x ∧ x < t
    · obtain ⟨h1, h2⟩ := hx
      have hfin : waitF t f m x = wt f m (x.toNat - 1) := by simp [waitF, hv, h1, h2]
      go_enter Try.func20, Try.ntmps20
      go_wp2_with (first
        | (go_at_call 17; refine (implPolicyValid_c _ _ _ _).mono ?_; rintro e w1 ⟨rfl, hb1⟩; obtain ⟨hc1, hf1⟩ := bcell hb1 (by simp))
        | (go_at_call 32; refine (waits_c _ _ _ _ HV.out).mono ?_; rintro e w2 ⟨v, rfl, hown, hb2⟩; obtain ⟨g, cap, rfl, hcx⟩ := own_ints hown (x.toNat - 1) (by omega) (wts_get f m _ _ (by omega))))
      go_ret
      exact ⟨ret_int (by first | rfl | exact hfin.symm), (((Below.refl _ _).alloc (Nat.le_refl _) _).trans (hb1.mono (by simp))).trans (hb2.mono (by have := hb1.size; simp at this; omega))⟩
    · have hfin : waitF t f m x = -1 := by rw [waitF, if_neg (by rintro ⟨_, h1, h2⟩; exact hx ⟨h1, h2⟩)]
      by_cases h1 : 1 ≤ x
      all_goals
        go_enter Try.func20, Try.ntmps20
        go_wp2_with (first
          | (go_at_call 17; refine (implPolicyValid_c _ _ _ _).mono ?_; rintro e w1 ⟨rfl, hb1⟩; obtain ⟨hc1, hf1⟩ := bcell hb1 (by simp)))
        go_ret
        exact ⟨ret_int (by first | rfl | exact hfin.symm), ((Below.refl _ _).alloc (Nat.le_refl _) _).trans (hb1.mono (by simp))⟩

set_option maxHeartbeats 400000 in
theorem implRetryAt_c (t f m x : Int) (w : World) : Calls Try.prog 22 #[.agg #[.int .i64 t, .int .i64 f, .int .i64 m], .int .i64 x] w fun e w' => e = .returned (.int .i64 (atF t f m x)) ∧ Below w.heap.size w w' := by
  cases hv : polB t f m
  · have hfin : atF t f m x = -1 := by simp [atF, hv]
    go_enter Try.func22, Try.ntmps22
    go_wp2_with (go_at_call 17; refine (implPolicyValid_c _ _ _ _).mono ?_; rintro e w1 ⟨rfl, hb1⟩)
    go_ret
    exact ⟨ret_int (by first | rfl | exact hfin.symm), ((Below.refl _ _).alloc (Nat.le_refl _) _).trans (hb1.mono (by simp))⟩
  · have HV := Lib.hid hv
    obtain ⟨p1, p2, p3, p4, p5, p6⟩ := polB_iff.1 hv
    by_cases hx : 1 ≤ x ∧ x ≤ t
    · obtain ⟨h1, h2⟩ := hx
      have hfin : atF t f m x = ats f m (x.toNat - 1) := by simp [atF, hv, h1, h2]
      go_enter Try.func22, Try.ntmps22
      go_wp2_with (first
        | (go_at_call 17; refine (implPolicyValid_c _ _ _ _).mono ?_; rintro e w1 ⟨rfl, hb1⟩; obtain ⟨hc1, hf1⟩ := bcell hb1 (by simp))
        | (go_at_call 32; refine (waits_c _ _ _ _ HV.out).mono ?_; rintro e w2 ⟨v, rfl, hown, hb2⟩; obtain ⟨a, cap, rfl, hcap, hcm⟩ := own_cap hown; unfold maxLen at hcm))
      have hb3 : Below (w.heap.size + 1) (w.alloc (.cells #[.int .i64 t, .int .i64 f, .int .i64 m] 25)) w2 := (hb1.mono (by simp)).trans (hb2.mono (by have := hb1.size; simp at this; omega))
      clear hc1 hf1 hv
      go_loop [5, 27] (fun v i => ∃ k : Nat, k ≤ x.toNat - 1 ∧ i = .int .i64 k ∧ v = .int .i64 (ats f m k)) (fun _ i => (x - intOf i).toNat)
      case atStart => exact ⟨0, Nat.zero_le _, rfl, rfl⟩
      case round =>
        obtain ⟨k, hk, rfl, rfl⟩ := hrel
        have hb := wt_bd p3 p5 p6 k
        have hat := ats_bd p3 p5 p6 k
        by_cases hlt : k < x.toNat - 1
        · obtain ⟨g, cap', hv, hcx⟩ := own_ints hown k (by omega) (wts_get f m _ _ (by omega))
          obtain ⟨rfl, _⟩ := slice_inj hv
          clear hv
          go_wp2
          go_round
          case rel => exact ⟨k + 1, by omega, by go_num, by rw [ats]⟩
          case measure => simp [intOf]; omega
        · go_wp2
          go_ret
          obtain rfl : k = x.toNat - 1 := by omega
          exact ⟨ret_int (by first | rfl | exact hfin.symm), ((Below.refl _ _).alloc (Nat.le_refl _) _).trans (hb3.mono (by omega))⟩
    · have hfin : atF t f m x = -1 := by rw [atF, if_neg (by rintro ⟨_, h1, h2⟩; exact hx ⟨h1, h2⟩)]
      by_cases h1 : 1 ≤ x
      all_goals
        go_enter Try.func22, Try.ntmps22
        go_wp2_with (first
          | (go_at_call 17; refine (implPolicyValid_c _ _ _ _).mono ?_; rintro e w1 ⟨rfl, hb1⟩; obtain ⟨hc1, hf1⟩ := bcell hb1 (by simp)))
        go_ret
        exact ⟨ret_int (by first | rfl | exact hfin.symm), ((Below.refl _ _).alloc (Nat.le_refl _) _).trans (hb1.mono (by simp))⟩

set_option maxHeartbeats 400000 in
theorem specRetryBy_c (t f m x : Int) (w : World) : Calls Try.prog 23 #[.agg #[.int .i64 t, .int .i64 f, .int .i64 m], .int .i64 x] w fun e w' => e = .returned (.int .i64 (byF t f m x)) ∧ Below w.heap.size w w' := by
  cases hv : polB t f m
  · have hfin : byF t f m x = -1 := by simp [byF, hv]
    go_enter Try.func23, Try.ntmps23
    go_wp2_with (go_at_call 15; refine (specPolicyValid_c _ _ _ _).mono ?_; rintro e w1 ⟨rfl, hb1⟩)
    go_ret
    exact ⟨ret_int (by first | rfl | exact hfin.symm), ((Below.refl _ _).alloc (Nat.le_refl _) _).trans (hb1.mono (by simp))⟩
  · have HV := Lib.hid hv
    obtain ⟨p1, p2, p3, p4, p5, p6⟩ := polB_iff.1 hv
    by_cases hx : 0 ≤ x
    · have hfin : byF t f m x = byGo f m x (t.toNat - 1) 1 := by simp [byF, hv, hx]
      have HF := Lib.hid hfin
      clear hfin
      go_enter Try.func23, Try.ntmps23
      go_wp2_with (first
        | (go_at_call 15; refine (specPolicyValid_c _ _ _ _).mono ?_; rintro e w1 ⟨rfl, hb1⟩; obtain ⟨hc1, hf1⟩ := bcell hb1 (by simp)))
      clear hc1 hf1 hv
      go_loopw [5] (fun v wr => ∃ k : Nat, 1 ≤ k ∧ (k : Int) ≤ t ∧ v = .int .i64 k ∧ Hid (byGo f m x (t.toNat - k) k = byGo f m x (t.toNat - 1) 1) ∧ Below (w.heap.size + 1) (w.alloc (.cells #[.int .i64 t, .int .i64 f, .int .i64 m] 25)) wr) (fun v _ => (t - intOf v).toNat)
      case atStart => exact ⟨1, Nat.le_refl _, by omega, rfl, Lib.hid rfl, hb1.mono (by simp)⟩
      case round =>
        obtain ⟨k, hk1, hk2, rfl, HK, hbr⟩ := hrel
        have hz : w.heap.size + 1 ≤ wr.heap.size := by have := hbr.size; simpa using this
        obtain ⟨hc, hf⟩ := bcell hbr (by simp)
        by_cases hlt : (k : Int) < t
        · have hq : atF t f m ((k : Int) + 1) = ats f m k := by rw [atF, if_pos ⟨HV.out, by omega, by omega⟩, show ((k : Int) + 1).toNat - 1 = k from by omega]
          by_cases hle : ats f m k ≤ x
          all_goals
            go_wp2_with (go_at_call 21; refine (specRetryAt_c _ _ _ _ _).mono ?_; rintro e w2 ⟨rfl, hb2⟩)
          · go_roundw
            case rel => exact ⟨k + 1, by omega, by omega, by go_num, Lib.hid ((byGo_yes f m x t k hk1 hlt hle).trans HK.out), hbr.trans (hb2.mono hz)⟩
            case measure => simp [intOf]; omega
          · go_ret
            exact ⟨ret_int (by rw [HF.out, ← HK.out, byGo_no f m x t k hk1 hlt (by omega)]), ((Below.refl _ _).alloc (Nat.le_refl _) _).trans ((hbr.trans (hb2.mono hz)).mono (by omega))⟩
        · go_wp2
          go_ret
          exact ⟨ret_int (by rw [HF.out, ← HK.out, byGo_end f m x t k (by omega)]), ((Below.refl _ _).alloc (Nat.le_refl _) _).trans (hbr.mono (by omega))⟩
    · have hfin : byF t f m x = -1 := by rw [byF, if_neg (by rintro ⟨_, h1⟩; exact hx h1)]
      go_enter Try.func23, Try.ntmps23
      go_wp2_with (first
        | (go_at_call 15; refine (specPolicyValid_c _ _ _ _).mono ?_; rintro e w1 ⟨rfl, hb1⟩; obtain ⟨hc1, hf1⟩ := bcell hb1 (by simp)))
      go_ret
      exact ⟨ret_int (by first | rfl | exact hfin.symm), ((Below.refl _ _).alloc (Nat.le_refl _) _).trans (hb1.mono (by simp))⟩

set_option maxHeartbeats 400000 in
theorem implRetryBy_c (t f m x : Int) (w : World) : Calls Try.prog 24 #[.agg #[.int .i64 t, .int .i64 f, .int .i64 m], .int .i64 x] w fun e w' => e = .returned (.int .i64 (byF t f m x)) ∧ Below w.heap.size w w' := by
  cases hv : polB t f m
  · have hfin : byF t f m x = -1 := by simp [byF, hv]
    go_enter Try.func24, Try.ntmps24
    go_wp2_with (go_at_call 17; refine (implPolicyValid_c _ _ _ _).mono ?_; rintro e w1 ⟨rfl, hb1⟩)
    go_ret
    exact ⟨ret_int (by first | rfl | exact hfin.symm), ((Below.refl _ _).alloc (Nat.le_refl _) _).trans (hb1.mono (by simp))⟩
  · have HV := Lib.hid hv
    obtain ⟨p1, p2, p3, p4, p5, p6⟩ := polB_iff.1 hv
    by_cases hx : 0 ≤ x
    · have hfin : byF t f m x = byGo f m x (t.toNat - 1) 1 := by simp [byF, hv, hx]
      have HF := Lib.hid hfin
      clear hfin
      go_enter Try.func24, Try.ntmps24
      go_wp2_with (first
        | (go_at_call 17; refine (implPolicyValid_c _ _ _ _).mono ?_; rintro e w1 ⟨rfl, hb1⟩; obtain ⟨hc1, hf1⟩ := bcell hb1 (by simp)))
      clear hc1 hf1 hv
      go_loopw [5] (fun v wr => ∃ k : Nat, 1 ≤ k ∧ (k : Int) ≤ t ∧ v = .int .i64 k ∧ Hid (byGo f m x (t.toNat - k) k = byGo f m x (t.toNat - 1) 1) ∧ Below (w.heap.size + 1) (w.alloc (.cells #[.int .i64 t, .int .i64 f, .int .i64 m] 25)) wr) (fun v _ => (t - intOf v).toNat)
      case atStart => exact ⟨1, Nat.le_refl _, by omega, rfl, Lib.hid rfl, hb1.mono (by simp)⟩
      case round =>
        obtain ⟨k, hk1, hk2, rfl, HK, hbr⟩ := hrel
        have hz : w.heap.size + 1 ≤ wr.heap.size := by have := hbr.size; simpa using this
        obtain ⟨hc, hf⟩ := bcell hbr (by simp)
        by_cases hlt : (k : Int) < t
        · have hq : atF t f m ((k : Int) + 1) = ats f m k := by rw [atF, if_pos ⟨HV.out, by omega, by omega⟩, show ((k : Int) + 1).toNat - 1 = k from by omega]
          by_cases hle : ats f m k ≤ x
          all_goals
            go_wp2_with (go_at_call 22; refine (implRetryAt_c _ _ _ _ _).mono ?_; rintro e w2 ⟨rfl, hb2⟩)
          · go_roundw
            case rel => exact ⟨k + 1, by omega, by omega, by go_num, Lib.hid ((byGo_yes f m x t k hk1 hlt hle).trans HK.out), hbr.trans (hb2.mono hz)⟩
            case measure => simp [intOf]; omega
          · go_ret
            exact ⟨ret_int (by rw [HF.out, ← HK.out, byGo_no f m x t k hk1 hlt (by omega)]), ((Below.refl _ _).alloc (Nat.le_refl _) _).trans ((hbr.trans (hb2.mono hz)).mono (by omega))⟩
        · go_wp2
          go_ret
          exact ⟨ret_int (by rw [HF.out, ← HK.out, byGo_end f m x t k (by omega)]), ((Below.refl _ _).alloc (Nat.le_refl _) _).trans (hbr.mono (by omega))⟩
    · have hfin : byF t f m x = -1 := by rw [byF, if_neg (by rintro ⟨_, h1⟩; exact hx h1)]
      go_enter Try.func24, Try.ntmps24
      go_wp2_with (first
        | (go_at_call 17; refine (implPolicyValid_c _ _ _ _).mono ?_; rintro e w1 ⟨rfl, hb1⟩; obtain ⟨hc1, hf1⟩ := bcell hb1 (by simp)))
      go_ret
      exact ⟨ret_int (by first | rfl | exact hfin.symm), ((Below.refl _ _).alloc (Nat.le_refl _) _).trans (hb1.mono (by simp))⟩

end Go.Proofs.Ytmobpfphehmleaa
