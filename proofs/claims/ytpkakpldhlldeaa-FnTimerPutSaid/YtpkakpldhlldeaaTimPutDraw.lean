/- The draw of timers beside a timer. -/
import Derived.Test.YtpkakpldhlldeaaTimDraws
import Derived.RegionTactic
import Derived.BigRegion
namespace Go.Proofs.Ytpkakpldhlldeaa
open Go.RowKit

set_option maxHeartbeats 1000000 in
theorem drawTimerPut_c (A : Option Addr) (n c : Nat) (zs : List Int) (w : World) (h : IsRow .u8 w A n c zs) : Calls Try.prog 12 #[.slice A n c] w fun e w' =>
    ∃ A' n' c' l x s, e = .returned (.tuple #[.slice A' n' c', .agg #[.int .i64 x, .string s]]) ∧ SlT w' A' n' c' l ∧ n' ≤ 9 ∧ Sz5T l ∧ s.size ≤ 6 ∧ Below w.heap.size w w' := by
  go_enter Try.func12, Try.ntmps12
  go_wp2_with fail
  have kr := Blk.new w 25 #[.int .i64 0, .string ByteArray.empty]
  refine (l6Open_c A n c zs _ (h.al _)).mono ?_
  rintro e w1 ⟨R, rfl, hrd, hb1, hR⟩
  have kr := kr.bel hb1
  have hW := bel_nx (bel_al (bel_refl w) _) hb1
  have hRk : w.heap.size < R := by simp at hR; omega
  go_wp2_with fail
  refine (l92Timers_c R 971 _ hrd).mono ?_
  rintro e w2 ⟨B, m, d, l, rfl, ho, hm, h5, hg2, hr2⟩
  have hRw := hrd.lt
  have kr := kr.gr hg2 (by simp; omega)
  have hW := bel_gr hW hg2 (by omega)
  have hBw := hW.size
  have hcm := (SlT.of_own ho).cap
  have hdm := (SlT.of_own ho).max
  clear hb1 hrd
  go_wp2_with fail
  refine (pick_c R (970) _ _ (by repeat' first | assumption | refine Rd.al ?_ _ | refine Rd.dr ?_ | (refine Rd.set_ ?_ (by simp; omega) _))).mono ?_; rintro e w3 ⟨v3, rfl, ⟨a3, b3, _⟩, hg3, hr3⟩; obtain ⟨hc3, hf3⟩ := pcell hg3; have hl3 := hr3.lt; have hn3 := Nat.ne_of_gt hl3
  have ho := own_gr ho hg3 hRw
  have kr := kr.gr hg3 (by simp; omega)
  have hW := bel_gr hW hg3 (by omega)
  clear hc3 hf3 hg3
  go_wp2_with fail
  refine (pick_c R (969) _ _ (by repeat' first | assumption | refine Rd.al ?_ _ | refine Rd.dr ?_ | (refine Rd.set_ ?_ (by simp; omega) _))).mono ?_; rintro e w4 ⟨v4, rfl, ⟨a4, b4, _⟩, hg4, hr4⟩; obtain ⟨hc4, hf4⟩ := pcell hg4; have hl4 := hr4.lt; have hn4 := Nat.ne_of_gt hl4
  have ho := own_gr ho hg4 hRw
  have kr := kr.gr hg4 (by simp; omega)
  have hW := bel_gr hW hg4 (by omega)
  clear hc4 hf4 hg4
  go_wp2_with fail
  refine (l91Name_c R 967 _ hr4).mono ?_
  rintro e w5 ⟨s, rfl, hs, hg5, hr5⟩
  have ho := own_gr ho hg5 hRw
  have kr := kr.gr hg5 (by simp; omega)
  have hW := bel_gr hW hg5 (by omega)
  clear hg5
  have hkl := kr.lt
  have kr0 := kr
  have ho0 := ho
  have hW0 := hW
  have hR5 := hr5.lt
  have cq := kr.cell
  have fq := kr.frozen
  have kt := Blk.new w5 25 #[.int .i64 (v3 - v4 / 29 * 200), .string s]
  have kr := kr.al (.cells #[.int .i64 (v3 - v4 / 29 * 200), .string s] 25)
  have ho := ho.alloc (.cells #[.int .i64 (v3 - v4 / 29 * 200), .string s] 25)
  have hW := bel_al hW (.cells #[.int .i64 (v3 - v4 / 29 * 200), .string s] 25)
  have hr5 := hr5.al (.cells #[.int .i64 (v3 - v4 / 29 * 200), .string s] 25)
  have ckt := kt.cell
  have ckr := kr.cell
  have fkr := kr.frozen
  have hBw : w.heap.size < w1.heap.size := by omega
  rcases Nat.eq_zero_or_pos m with rfl | hm0
  · go_wp2_with fail
    go_region
    all_goals
      go_wp2_with fail
      have kz := ((kr0.set_ 0 (.int .i64 (v3 - v4 / 29 * 200))).set_ 1 (.string s)).al (.cells #[.int .i64 (v3 - v4 / 29 * 200), .string s] 25)
      have cz := kz.cell
      refine bodyPost_ret (v := .tuple #[.slice B 0 d, .agg #[.int .i64 (v3 - v4 / 29 * 200), .string s]]) (by simp [results, Try.results12, go_sem, cz]) rfl ⟨_, _, _, l, _, s, rfl, ?_, hm, h5, hs, ?_⟩
      · exact SlT.of_own (own_dr ((own_gr (own_gr ho0 (gr_cell _ _ _ _) hBw) (gr_cell _ _ _ _) hBw).alloc _))
      · exact bel_dr (bel_al (bel_set (bel_set hW0 (by simp) _) (by simp) _) _)
  · have hd : decide ((0 : Int) < (m : Int)) = true := decide_eq_true (by omega)
    have hd1 : decide (0 < m) = true := decide_eq_true (by omega)
    go_wp2_with fail
    refine (pick_c R (966) _ _ (by repeat' first | assumption | refine Rd.al ?_ _ | refine Rd.dr ?_ | (refine Rd.set_ ?_ (by simp; omega) _))).mono ?_; rintro e w6 ⟨v6, rfl, ⟨a6, b6, _⟩, hg6, hr6⟩; obtain ⟨hc6, hf6⟩ := pcell hg6; have hl6 := hr6.lt; have hn6 := Nat.ne_of_gt hl6
    have ho := own_gr ho hg6 hRw
    have kr := kr.gr hg6 (by simp; omega)
    have kt := kt.gr hg6 (by simp; omega)
    have hW := bel_gr hW hg6 (by omega)
    clear hc6 hf6 ckt ckr fkr hg6
    have ckt := kt.cell
    have fkt := kt.frozen
    have ckr := kr.cell
    have fkr := kr.frozen
    by_cases h1 : v6 = 0
    · have e1 : (v6 == 0) = true := by simpa using h1
      clear h1
      obtain ⟨g, cap, hA, hgB, hgL⟩ := ho.form hm0
      obtain ⟨rfl, _, rfl⟩ := slice_inj hA
      go_wp2_with fail
      refine (pick_c R (965) _ _ (by repeat' first | assumption | refine Rd.al ?_ _ | refine Rd.dr ?_ | (refine Rd.set_ ?_ (by simp; omega) _))).mono ?_; rintro e w7 ⟨v7, rfl, ⟨a7, b7, _⟩, hg7, hr7⟩; obtain ⟨hc7, hf7⟩ := pcell hg7; have hl7 := hr7.lt; have hn7 := Nat.ne_of_gt hl7
      have ho := own_gr ho hg7 hRw
      have kr := kr.gr hg7 (by simp; omega)
      have kt := kt.gr hg7 (by simp; omega)
      have hW := bel_gr hW hg7 (by omega)
      have b7 := b7 (by omega)
      obtain ⟨b', off', x', s', hA', hx', hq0, hq1⟩ := SlT.get (SlT.of_own ho) (i := v7.toNat) (by omega)
      cases hA'
      simp only [Nat.zero_add] at hq1
      have q0 : (0 : Int) ≤ v7 := a7
      clear hc7 hf7 ckt ckr fkr fkt hg7
      have ckt := kt.cell
      have fkt := kt.frozen
      have ckr := kr.cell
      have fkr := kr.frozen
      have hgk : g ≠ w5.heap.size := Nat.ne_of_lt (ho0.lt g rfl).2
      have ho := ho.kept (gr_cell _ w5.heap.size 1 (.string s')) (.inr (fun e => hgk (Option.some.inj e)))
      have kr := kr.far (p := ⟨w5.heap.size, 1, none⟩) (by simp; omega) (.string s')
      have kt := kt.set_ 1 (.string s')
      have hW := bel_set hW (p := ⟨w5.heap.size, 1, none⟩) (by simp; omega) (.string s')
      have hs' := (h5 _ (List.mem_of_getElem? hx')).1
      go_wp2_with fail
      clear ckt fkt ckr fkr cq fq
      have ckt := kt.cell
      have ckr := kr.cell
      have fkr := kr.frozen
      go_region
      all_goals
        go_wp2_with fail
        have kz := (kr.set_ 0 (.int .i64 (v3 - v4 / 29 * 200))).set_ 1 (.string s')
        have cz := kz.cell
        refine bodyPost_ret (v := .tuple #[.slice (some ⟨g, 0, none⟩) m d, .agg #[.int .i64 (v3 - v4 / 29 * 200), .string s']]) (by simp [results, Try.results12, go_sem, cz]) rfl ⟨_, _, _, l, _, s', rfl, ?_, hm, h5, hs', ?_⟩
        · first | exact SlT.of_own (own_gr (own_gr ho (gr_cell _ _ _ _) hBw) (gr_cell _ _ _ _) hBw) | exact SlT.of_own (own_gr (own_gr (own_dr ho) (gr_cell _ _ _ _) hBw) (gr_cell _ _ _ _) hBw) | exact SlT.of_own (own_dr (own_gr (own_gr ho (gr_cell _ _ _ _) hBw) (gr_cell _ _ _ _) hBw))
        · first | exact bel_set (bel_set hW (by simp) _) (by simp) _ | exact bel_dr (bel_set (bel_set hW (by simp) _) (by simp) _)
    · have e1 : (v6 == 0) = false := by simpa using h1
      clear h1
      go_wp2_with fail
      go_region
      all_goals
        go_wp2_with fail
        have kz := (kr.set_ 0 (.int .i64 (v3 - v4 / 29 * 200))).set_ 1 (.string s)
        have cz := kz.cell
        refine bodyPost_ret (v := .tuple #[.slice B m d, .agg #[.int .i64 (v3 - v4 / 29 * 200), .string s]]) (by simp [results, Try.results12, go_sem, cz]) rfl ⟨_, _, _, l, _, s, rfl, ?_, hm, h5, hs, ?_⟩
        · first | exact SlT.of_own (own_gr (own_gr ho (gr_cell _ _ _ _) hBw) (gr_cell _ _ _ _) hBw) | exact SlT.of_own (own_gr (own_gr (own_dr ho) (gr_cell _ _ _ _) hBw) (gr_cell _ _ _ _) hBw) | exact SlT.of_own (own_dr (own_gr (own_gr ho (gr_cell _ _ _ _) hBw) (gr_cell _ _ _ _) hBw))
        · first | exact bel_set (bel_set hW (by simp) _) (by simp) _ | exact bel_dr (bel_set (bel_set hW (by simp) _) (by simp) _)

end Go.Proofs.Ytpkakpldhlldeaa
