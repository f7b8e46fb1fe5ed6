/- The draws of timers beside a time, and beside a name. -/
import Derived.Test.YtpkakpldhlldeaaTimDraw
import Derived.Test.YtpkakpldhlldeaaNameDraw
import Derived.RegionTactic
import Derived.Deep.RegionWith
namespace Go.Proofs.Ytpkakpldhlldeaa
open Go.RowKit

set_option maxHeartbeats 1000000 in
theorem drawTimersDue_c (A : Option Addr) (n c : Nat) (zs : List Int) (w : World) (h : IsRow .u8 w A n c zs) : Calls Try.prog 24 #[.slice A n c] w fun e w' =>
    ∃ A' n' c' l t, e = .returned (.tuple #[.slice A' n' c', .int .i64 t]) ∧ SlT w' A' n' c' l ∧ n' ≤ 9 ∧ Sz5T l ∧ Below w.heap.size w w' := by
  go_enter Try.func24, Try.ntmps24
  go_wp2_with fail
  refine (l6Open_c A n c zs _ h).mono ?_
  rintro e w1 ⟨R, rfl, hrd, hb1, hR⟩
  go_wp2_with fail
  refine (l92Timers_c R 971 _ hrd).mono ?_
  rintro e w2 ⟨B, m, d, l, rfl, ho, hm, h5, hg2, hr2⟩
  have hRw := hrd.lt
  have hb2 := bel_gr hb1 hg2 hR
  have hcm := (SlT.of_own ho).cap
  have hdm := (SlT.of_own ho).max
  rcases Nat.eq_zero_or_pos m with rfl | hm0
  · skip
    go_wp2_with fail
    refine (pick_c R (970) _ _ (by repeat' first | assumption | refine Rd.al ?_ _ | refine Rd.dr ?_ | (refine Rd.set_ ?_ (by simp; omega) _))).mono ?_; rintro e w1 ⟨v1, rfl, ⟨a1, b1, _⟩, hg1, hr1⟩; obtain ⟨hc1, hf1⟩ := pcell hg1; have hl1 := hr1.lt; have hn1 := Nat.ne_of_gt hl1
    go_wp2_with fail
    refine (pick_c R (969) _ _ (by repeat' first | assumption | refine Rd.al ?_ _ | refine Rd.dr ?_ | (refine Rd.set_ ?_ (by simp; omega) _))).mono ?_; rintro e w2 ⟨v2, rfl, ⟨a2, b2, _⟩, hg2, hr2⟩; obtain ⟨hc2, hf2⟩ := pcell hg2; have hl2 := hr2.lt; have hn2 := Nat.ne_of_gt hl2
    go_wp2_with fail
    go_ret2
    exact ⟨_, _, _, l, _, rfl, SlT.of_own (own_gr (own_gr ho hg1 hRw) hg2 hRw), hm, h5, bel_gr (bel_gr hb2 hg1 hR) hg2 hR⟩
  · have hd : decide ((0 : Int) < (m : Int)) = true := decide_eq_true (by omega)
    have hd1 : decide (0 < m) = true := decide_eq_true (by omega)
    go_wp2_with fail
    refine (pick_c R (970) _ _ (by repeat' first | assumption | refine Rd.al ?_ _ | refine Rd.dr ?_ | (refine Rd.set_ ?_ (by simp; omega) _))).mono ?_; rintro e w1 ⟨v1, rfl, ⟨a1, b1, _⟩, hg1, hr1⟩; obtain ⟨hc1, hf1⟩ := pcell hg1; have hl1 := hr1.lt; have hn1 := Nat.ne_of_gt hl1
    have ho1 := own_gr ho hg1 hRw
    clear hc1 hf1
    by_cases h1 : v1 = 0
    · have e1 : (v1 == 0) = true := by simpa using h1
      clear h1
      obtain ⟨g, cap, hA, hgB, hgL⟩ := ho.form hm0
      obtain ⟨rfl, _, rfl⟩ := slice_inj hA
      go_wp2_with fail
      go_region_with ((first
        | (go_at_call 36; refine (pick_c R (969) _ _ (by repeat' first | assumption | refine Rd.al ?_ _ | refine Rd.dr ?_ | (refine Rd.set_ ?_ (by simp; omega) _))).mono ?_; rintro e w3 ⟨v3, rfl, ⟨a3, b3, _⟩, hg3, hr3⟩; obtain ⟨hc3, hf3⟩ := pcell hg3; have hl3 := hr3.lt; have hn3 := Nat.ne_of_gt hl3; have ho3 := own_gr ho1 (first_gr hg3) hRw; have b3 := b3 (by omega); obtain ⟨b', off', x', s', hA', hx', hq0, hq1⟩ := SlT.get (SlT.of_own ho3) (i := v3.toNat) (by omega); cases hA'; simp only [Nat.zero_add] at hq0; have q0 : (0 : Int) ≤ v3 := a3)))
      go_wp2_with fail
      go_ret2
      exact ⟨_, _, _, l, _, rfl, SlT.of_own ho3, hm, h5, bel_gr (bel_gr hb2 hg1 hR) (first_gr hg3) hR⟩
    · have e1 : (v1 == 0) = false := by simpa using h1
      clear h1
      go_wp2_with fail
      refine (pick_c R (969) _ _ (by repeat' first | assumption | refine Rd.al ?_ _ | refine Rd.dr ?_ | (refine Rd.set_ ?_ (by simp; omega) _))).mono ?_; rintro e w3 ⟨v3, rfl, ⟨a3, b3, _⟩, hg3, hr3⟩; obtain ⟨hc3, hf3⟩ := pcell hg3; have hl3 := hr3.lt; have hn3 := Nat.ne_of_gt hl3
      go_wp2_with fail
      refine (pick_c R (968) _ _ (by repeat' first | assumption | refine Rd.al ?_ _ | refine Rd.dr ?_ | (refine Rd.set_ ?_ (by simp; omega) _))).mono ?_; rintro e w4 ⟨v4, rfl, ⟨a4, b4, _⟩, hg4, hr4⟩; obtain ⟨hc4, hf4⟩ := pcell hg4; have hl4 := hr4.lt; have hn4 := Nat.ne_of_gt hl4
      go_wp2_with fail
      go_ret2
      exact ⟨_, _, _, l, _, rfl, SlT.of_own (own_gr (own_gr ho1 hg3 hRw) hg4 hRw), hm, h5, bel_gr (bel_gr (bel_gr hb2 hg1 hR) hg3 hR) hg4 hR⟩

set_option maxHeartbeats 1000000 in
theorem drawTimerDrop_c (A : Option Addr) (n c : Nat) (zs : List Int) (w : World) (h : IsRow .u8 w A n c zs) : Calls Try.prog 28 #[.slice A n c] w fun e w' =>
    ∃ A' n' c' l s, e = .returned (.tuple #[.slice A' n' c', .string s]) ∧ SlT w' A' n' c' l ∧ n' ≤ 9 ∧ Sz5T l ∧ s.size ≤ 6 ∧ Below w.heap.size w w' := by
  go_enter Try.func28, Try.ntmps28
  go_wp2_with fail
  refine (l6Open_c A n c zs _ h).mono ?_
  rintro e w1 ⟨R, rfl, hrd, hb1, hR⟩
  go_wp2_with fail
  refine (l92Timers_c R 971 _ hrd).mono ?_
  rintro e w2 ⟨B, m, d, l, rfl, ho, hm, h5, hg2, hr2⟩
  have hRw := hrd.lt
  have hb2 := bel_gr hb1 hg2 hR
  have hcm := (SlT.of_own ho).cap
  have hdm := (SlT.of_own ho).max
  rcases Nat.eq_zero_or_pos m with rfl | hm0
  · skip
    go_wp2_with fail
    refine (l91Name_c R 969 _ hr2).mono ?_
    rintro e w5 ⟨s, rfl, hs, hg5, hr5⟩
    go_wp2_with fail
    go_ret2
    exact ⟨_, _, _, l, s, rfl, SlT.of_own (own_gr ho hg5 hRw), hm, h5, hs, bel_gr hb2 hg5 hR⟩
  · have hd : decide ((0 : Int) < (m : Int)) = true := decide_eq_true (by omega)
    have hd1 : decide (0 < m) = true := decide_eq_true (by omega)
    go_wp2_with fail
    refine (pick_c R (970) _ _ (by repeat' first | assumption | refine Rd.al ?_ _ | refine Rd.dr ?_ | (refine Rd.set_ ?_ (by simp; omega) _))).mono ?_; rintro e w1 ⟨v1, rfl, ⟨a1, b1, _⟩, hg1, hr1⟩; obtain ⟨hc1, hf1⟩ := pcell hg1; have hl1 := hr1.lt; have hn1 := Nat.ne_of_gt hl1
    have ho1 := own_gr ho hg1 hRw
    clear hc1 hf1
    by_cases h1 : 0 < v1
    · have e1 : decide (0 < v1) = true := decide_eq_true h1
      clear h1
      obtain ⟨g, cap, hA, hgB, hgL⟩ := ho.form hm0
      obtain ⟨rfl, _, rfl⟩ := slice_inj hA
      go_wp2_with fail
      go_region_with ((first
        | (go_at_call 36; refine (pick_c R (969) _ _ (by repeat' first | assumption | refine Rd.al ?_ _ | refine Rd.dr ?_ | (refine Rd.set_ ?_ (by simp; omega) _))).mono ?_; rintro e w3 ⟨v3, rfl, ⟨a3, b3, _⟩, hg3, hr3⟩; obtain ⟨hc3, hf3⟩ := pcell hg3; have hl3 := hr3.lt; have hn3 := Nat.ne_of_gt hl3; have ho3 := own_gr ho1 (first_gr hg3) hRw; have b3 := b3 (by omega); obtain ⟨b', off', x', s', hA', hx', hq0, hq1⟩ := SlT.get (SlT.of_own ho3) (i := v3.toNat) (by omega); cases hA'; simp only [Nat.zero_add] at hq1; have q0 : (0 : Int) ≤ v3 := a3)))
      go_wp2_with fail
      go_ret2
      exact ⟨_, _, _, l, _, rfl, SlT.of_own ho3, hm, h5, (h5 _ (List.mem_of_getElem? hx')).1, bel_gr (bel_gr hb2 hg1 hR) (first_gr hg3) hR⟩
    · have e1 : decide (0 < v1) = false := decide_eq_false h1
      clear h1
      go_wp2_with fail
      refine (l91Name_c R 968 _ hr1).mono ?_
      rintro e w5 ⟨s, rfl, hs, hg5, hr5⟩
      go_wp2_with fail
      go_ret2
      exact ⟨_, _, _, l, s, rfl, SlT.of_own (own_gr ho1 hg5 hRw), hm, h5, hs, bel_gr (bel_gr hb2 hg1 hR) hg5 hR⟩

end Go.Proofs.Ytpkakpldhlldeaa
