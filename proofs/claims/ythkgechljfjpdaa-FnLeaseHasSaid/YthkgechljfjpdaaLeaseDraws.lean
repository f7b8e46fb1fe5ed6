/- The draws of leases beside a time and a name, and beside a name and an owner. -/
import Derived.Test.YthkgechljfjpdaaLeasesDraw
import Derived.Test.YthkgechljfjpdaaNameDraw
import Derived.RegionTactic
import Derived.Deep.RegionWith
namespace Go.Proofs.Ythkgechljfjpdaa
open Go.RowKit

theorem first_sl {w w' : World} {A : Option Addr} {n c : Nat} {l : List R3} {B R : Nat} {e : TypeId} (h : w.ownsRow B e 3 (.slice A n c) n (l.flatMap encR)) (hg : w.drew.grownBy w' (some R)) (hR : R < B) : w'.ownsRow B e 3 (.slice A n c) n (l.flatMap encR) := own_gr h (first_gr hg) hR

set_option maxHeartbeats 1000000 in
theorem drawLeaseHas_c (A : Option Addr) (n c : Nat) (zs : List Int) (w : World) (h : IsRow .u8 w A n c zs) : Calls Try.prog 25 #[.slice A n c] w fun e w' =>
    ∃ A' n' c' l t s, e = .returned (.tuple #[.slice A' n' c', .int .i64 t, .string s]) ∧ SlR w' A' n' c' l ∧ n' ≤ 8 ∧ Sz5 l ∧ s.size ≤ 6 ∧ Below w.heap.size w w' := by
  go_enter Try.func25, Try.ntmps25
  go_wp2_with fail
  refine (l6Open_c A n c zs _ h).mono ?_
  rintro e w1 ⟨R, rfl, hrd, hb1, hR⟩
  go_wp2_with fail
  refine (l92Leases_c R 970 _ hrd).mono ?_
  rintro e w2 ⟨B, m, d, l, rfl, ho, hm, h5, hg2, hr2⟩
  have hRw := hrd.lt
  have hb2 := bel_gr hb1 hg2 hR
  have hL : l.length = m := by
    have := ho.1
    rw [flat_len (k := 3) (fun _ => rfl)] at this
    omega
  have hcm := (SlR.of_own ho).cap
  have hdm := (SlR.of_own ho).max
  have HL := Lib.hid hL
  clear hL
  rcases Nat.eq_zero_or_pos m with rfl | hm0
  · skip
    go_wp2_with fail
    refine (pick_c R (969) _ _ (by repeat' first | assumption | refine Rd.al ?_ _ | refine Rd.dr ?_ | (refine Rd.set_ ?_ (by simp; omega) _))).mono ?_; rintro e w1 ⟨v1, rfl, ⟨a1, b1, _⟩, hg1, hr1⟩; obtain ⟨hc1, hf1⟩ := pcell hg1; have hl1 := hr1.lt; have hn1 := Nat.ne_of_gt hl1
    go_wp2_with fail
    refine (pick_c R (968) _ _ (by repeat' first | assumption | refine Rd.al ?_ _ | refine Rd.dr ?_ | (refine Rd.set_ ?_ (by simp; omega) _))).mono ?_; rintro e w2 ⟨v2, rfl, ⟨a2, b2, _⟩, hg2, hr2⟩; obtain ⟨hc2, hf2⟩ := pcell hg2; have hl2 := hr2.lt; have hn2 := Nat.ne_of_gt hl2
    go_wp2_with fail
    refine (l91Name_c R 966 _ hr2).mono ?_
    rintro e w5 ⟨s, rfl, hs, hg5, hr5⟩
    go_wp2_with fail
    go_ret3
    exact ⟨_, _, _, l, _, s, rfl, SlR.of_own (own_gr (own_gr (own_gr ho hg1 hRw) hg2 hRw) hg5 hRw), hm, h5, hs, bel_gr (bel_gr (bel_gr hb2 hg1 hR) hg2 hR) hg5 hR⟩
  · have hd : decide ((0 : Int) < (m : Int)) = true := decide_eq_true (by omega)
    have hd1 : decide (0 < m) = true := decide_eq_true (by omega)
    go_wp2_with fail
    refine (pick_c R (969) _ _ (by repeat' first | assumption | refine Rd.al ?_ _ | refine Rd.dr ?_ | (refine Rd.set_ ?_ (by simp; omega) _))).mono ?_; rintro e w1 ⟨v1, rfl, ⟨a1, b1, _⟩, hg1, hr1⟩; obtain ⟨hc1, hf1⟩ := pcell hg1; have hl1 := hr1.lt; have hn1 := Nat.ne_of_gt hl1
    have ho1 := own_gr ho hg1 hRw
    clear hc1 hf1
    by_cases h1 : 0 < v1
    · have e1 : decide (0 < v1) = true := decide_eq_true h1
      obtain ⟨g, cap, hA, hgB, hgL⟩ := ho.form hm0
      obtain ⟨rfl, _, rfl⟩ := slice_inj hA
      go_wp2_with fail
      go_region_with ((first
        | (go_at_call 47; refine (pick_c R (968) _ _ (by repeat' first | assumption | refine Rd.al ?_ _ | refine Rd.dr ?_ | (refine Rd.set_ ?_ (by simp; omega) _))).mono ?_; rintro e w3 ⟨v3, rfl, ⟨a3, b3, _⟩, hg3, hr3⟩; obtain ⟨hc3, hf3⟩ := pcell hg3; have hl3 := hr3.lt; have hn3 := Nat.ne_of_gt hl3; have ho3 := first_sl ho1 hg3 hRw)
        | (go_at_call 47; refine (pick_c R (967) _ _ (by repeat' first | assumption | refine Rd.al ?_ _ | refine Rd.dr ?_ | (refine Rd.set_ ?_ (by simp; omega) _))).mono ?_; rintro e w4 ⟨v4, rfl, ⟨a4, b4, _⟩, hg4, hr4⟩; obtain ⟨hc4, hf4⟩ := pcell hg4; have hl4 := hr4.lt; have hn4 := Nat.ne_of_gt hl4; have ho4 := own_gr ho3 hg4 hRw; have b4 := b4 (by omega); obtain ⟨b', off', s', x', y', hA', hx', hq0, hq1, hq2⟩ := SlR.get (SlR.of_own ho4) (i := v4.toNat) (by omega); cases hA'; simp only [Nat.zero_add] at hq0; have q0 : (0 : Int) ≤ v4 := a4)))
      go_wp2_with fail
      go_ret3
      exact ⟨_, _, _, l, _, s', rfl, SlR.of_own ho4, hm, h5, h5 _ (List.mem_of_getElem? hx'), bel_gr (bel_gr (bel_gr hb2 hg1 hR) (first_gr hg3) hR) hg4 hR⟩
    · have e1 : decide (0 < v1) = false := decide_eq_false h1
      go_wp2_with fail
      refine (pick_c R (968) _ _ (by repeat' first | assumption | refine Rd.al ?_ _ | refine Rd.dr ?_ | (refine Rd.set_ ?_ (by simp; omega) _))).mono ?_; rintro e w3 ⟨v3, rfl, ⟨a3, b3, _⟩, hg3, hr3⟩; obtain ⟨hc3, hf3⟩ := pcell hg3; have hl3 := hr3.lt; have hn3 := Nat.ne_of_gt hl3
      go_wp2_with fail
      refine (pick_c R (967) _ _ (by repeat' first | assumption | refine Rd.al ?_ _ | refine Rd.dr ?_ | (refine Rd.set_ ?_ (by simp; omega) _))).mono ?_; rintro e w4 ⟨v4, rfl, ⟨a4, b4, _⟩, hg4, hr4⟩; obtain ⟨hc4, hf4⟩ := pcell hg4; have hl4 := hr4.lt; have hn4 := Nat.ne_of_gt hl4
      go_wp2_with fail
      refine (l91Name_c R 965 _ hr4).mono ?_
      rintro e w5 ⟨s, rfl, hs, hg5, hr5⟩
      go_wp2_with fail
      go_ret3
      exact ⟨_, _, _, l, _, s, rfl, SlR.of_own (own_gr (own_gr (own_gr ho1 hg3 hRw) hg4 hRw) hg5 hRw), hm, h5, hs, bel_gr (bel_gr (bel_gr (bel_gr hb2 hg1 hR) hg3 hR) hg4 hR) hg5 hR⟩

set_option maxHeartbeats 1000000 in
theorem drawLeaseGive_c (A : Option Addr) (n c : Nat) (zs : List Int) (w : World) (h : IsRow .u8 w A n c zs) : Calls Try.prog 28 #[.slice A n c] w fun e w' =>
    ∃ A' n' c' l s o, e = .returned (.tuple #[.slice A' n' c', .string s, .int .i64 o]) ∧ SlR w' A' n' c' l ∧ n' ≤ 8 ∧ Sz5 l ∧ s.size ≤ 6 ∧ Below w.heap.size w w' := by
  go_enter Try.func28, Try.ntmps28
  go_wp2_with fail
  refine (l6Open_c A n c zs _ h).mono ?_
  rintro e w1 ⟨R, rfl, hrd, hb1, hR⟩
  go_wp2_with fail
  refine (l92Leases_c R 970 _ hrd).mono ?_
  rintro e w2 ⟨B, m, d, l, rfl, ho, hm, h5, hg2, hr2⟩
  have hRw := hrd.lt
  have hb2 := bel_gr hb1 hg2 hR
  have hcm := (SlR.of_own ho).cap
  have hdm := (SlR.of_own ho).max
  rcases Nat.eq_zero_or_pos m with rfl | hm0
  · skip
    go_wp2_with fail
    refine (l91Name_c R 968 _ hr2).mono ?_
    rintro e w5 ⟨s, rfl, hs, hg5, hr5⟩
    go_wp2_with fail
    refine (pick_c R (967) _ _ (by repeat' first | assumption | refine Rd.al ?_ _ | refine Rd.dr ?_ | (refine Rd.set_ ?_ (by simp; omega) _))).mono ?_; rintro e w1 ⟨v1, rfl, ⟨a1, b1, _⟩, hg1, hr1⟩; obtain ⟨hc1, hf1⟩ := pcell hg1; have hl1 := hr1.lt; have hn1 := Nat.ne_of_gt hl1
    go_wp2_with fail
    go_ret3
    exact ⟨_, _, _, l, s, _, rfl, SlR.of_own (own_gr (own_gr ho hg5 hRw) hg1 hRw), hm, h5, hs, bel_gr (bel_gr hb2 hg5 hR) hg1 hR⟩
  · have hd : decide ((0 : Int) < (m : Int)) = true := decide_eq_true (by omega)
    have hd1 : decide (0 < m) = true := decide_eq_true (by omega)
    go_wp2_with fail
    refine (pick_c R (969) _ _ (by repeat' first | assumption | refine Rd.al ?_ _ | refine Rd.dr ?_ | (refine Rd.set_ ?_ (by simp; omega) _))).mono ?_; rintro e w1 ⟨v1, rfl, ⟨a1, b1, _⟩, hg1, hr1⟩; obtain ⟨hc1, hf1⟩ := pcell hg1; have hl1 := hr1.lt; have hn1 := Nat.ne_of_gt hl1
    have ho1 := own_gr ho hg1 hRw
    clear hc1 hf1
    by_cases h1 : 0 < v1
    · have e1 : decide (0 < v1) = true := decide_eq_true h1
      go_wp2_with fail
      refine (pick_c R (968) _ _ (by repeat' first | assumption | refine Rd.al ?_ _ | refine Rd.dr ?_ | (refine Rd.set_ ?_ (by simp; omega) _))).mono ?_; rintro e w2 ⟨v2, rfl, ⟨a2, b2, _⟩, hg2, hr2⟩; obtain ⟨hc2, hf2⟩ := pcell hg2; have hl2 := hr2.lt; have hn2 := Nat.ne_of_gt hl2
      have ho2 := own_gr ho1 hg2 hRw
      have b2 := b2 (by omega)
      obtain ⟨b', off', s', x', y', rfl, hx', hq0, hq1, hq2⟩ := SlR.get (SlR.of_own ho2) (i := v2.toNat) (by omega)
      clear hc2 hf2
      have hX := Blk.new w2 45 #[.string s', .int .i64 x', .int .i64 y']
      have x0 := hX.cell 0
      have x1 := hX.cell 1
      have hl2' := hr2.lt
      go_wp2_with fail
      go_region_held3 (fun w' => w'.cell? ⟨w2.heap.size, 0, none⟩ = some (.string s') ∧ w'.cell? ⟨w2.heap.size, 1, none⟩ = some (.int .i64 x')) (first | go_keep | exact ⟨x0, x1⟩ | exact ⟨hX3.cell 0, hX3.cell 1⟩)
        ((first | (go_at_call 47; refine (pick_c R (967) _ _ (by repeat' first | assumption | refine Rd.al ?_ _ | refine Rd.dr ?_ | (refine Rd.set_ ?_ (by simp; omega) _))).mono ?_; rintro e w3 ⟨v3, rfl, ⟨a3, b3, _⟩, hg3, hr3⟩; obtain ⟨hc3, hf3⟩ := pcell hg3; have hl3 := hr3.lt; have hn3 := Nat.ne_of_gt hl3; have hX3 := first_blk hX hg3 (by simp; omega))))
      go_wp2_with fail
      go_ret3
      exact ⟨_, _, _, l, s', _, rfl, SlR.of_own (first_sl (ho2.alloc _) hg3 hRw), hm, h5, h5 _ (List.mem_of_getElem? hx'), bel_gr (bel_al (bel_gr (bel_gr hb2 hg1 hR) hg2 hR) _) (first_gr hg3) hR⟩
    · have e1 : decide (0 < v1) = false := decide_eq_false h1
      go_wp2_with fail
      refine (l91Name_c R 967 _ hr1).mono ?_
      rintro e w5 ⟨s, rfl, hs, hg5, hr5⟩
      go_wp2_with fail
      refine (pick_c R (966) _ _ (by repeat' first | assumption | refine Rd.al ?_ _ | refine Rd.dr ?_ | (refine Rd.set_ ?_ (by simp; omega) _))).mono ?_; rintro e w2 ⟨v2, rfl, ⟨a2, b2, _⟩, hg2, hr2⟩; obtain ⟨hc2, hf2⟩ := pcell hg2; have hl2 := hr2.lt; have hn2 := Nat.ne_of_gt hl2
      go_wp2_with fail
      go_ret3
      exact ⟨_, _, _, l, s, _, rfl, SlR.of_own (own_gr (own_gr ho1 hg5 hRw) hg2 hRw), hm, h5, hs, bel_gr (bel_gr (bel_gr hb2 hg1 hR) hg5 hR) hg2 hR⟩

end Go.Proofs.Ythkgechljfjpdaa
