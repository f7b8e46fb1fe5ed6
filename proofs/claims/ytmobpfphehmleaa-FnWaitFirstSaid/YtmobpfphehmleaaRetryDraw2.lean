/- The draws of tries and times. -/
import Derived.Test.YtmobpfphehmleaaRetryDraw
namespace Go.Proofs.Ytmobpfphehmleaa
open Go.RowKit

set_option maxHeartbeats 400000 in
theorem drawRetryWait_c (A : Option Addr) (n c : Nat) (zs : List Int) (w : World) (h : IsRow .u8 w A n c zs) : Calls Try.prog 25 #[.slice A n c] w fun e w' =>
    ∃ t f m x, e = .returned (.tuple #[.agg #[.int .i64 t, .int .i64 f, .int .i64 m], .int .i64 x]) ∧ PolBd t f m ∧ (0 ≤ x ∧ x ≤ 20) ∧ Below w.heap.size w w' := by
  go_enter Try.func25, Try.ntmps25
  go_wp2_with fail
  refine (l6Open_c A n c zs _ (h.al _)).mono ?_
  rintro e w1 ⟨R, rfl, hrd, hb1, hR⟩
  simp at hR
  go_wp2_with fail
  refine (l92Policy_c R 995 _ hrd).mono ?_
  rintro e w2 ⟨t, f, m, rfl, hbd, hg2, hr2⟩
  have hb2 := ((Blk.new w 25 #[.int .i64 0, .int .i64 0, .int .i64 0]).bel hb1).gr hg2 (by simp; omega)
  have hl2 := hr2.lt
  have hn2 := Nat.ne_of_gt hl2
  have hz2 : w.heap.size < w2.heap.size := by have := hb2.lt; omega
  obtain ⟨x1, x2, x3, x4, x5, x6⟩ := hbd
  go_wp2_with fail
  have et : IntKind.i64.wrap (t + 1) = t + 1 := IntWalk.i64_in _ (by omega)
  have hne : w2.heap.size ≠ w.heap.size := by omega
  go_region_held3 (fun w' => w'.cell? ⟨w2.heap.size, 0, none⟩ = some (.int .i64 t) ∧ w'.cell? ⟨w2.heap.size, 1, none⟩ = some (.int .i64 f) ∧ w'.cell? ⟨w2.heap.size, 2, none⟩ = some (.int .i64 m))
    (first | go_keep | exact ⟨hp3.cell 0, hp3.cell 1, hp3.cell 2⟩ | exact ⟨hp4.cell 0, hp4.cell 1, hp4.cell 2⟩ | (have q := ((hp4.far (p := ⟨w.heap.size, 0, none⟩) (by simp; omega) (.int .i64 t)).far (p := ⟨w.heap.size, 1, none⟩) (by simp; omega) (.int .i64 f)).far (p := ⟨w.heap.size, 2, none⟩) (by simp; omega) (.int .i64 m); exact ⟨q.cell 0, q.cell 1, q.cell 2⟩))
    ((first | (go_at_call 33; refine (pick_c R (994) _ _ (by repeat' first | assumption | refine Rd.al ?_ _ | refine Rd.dr ?_ | (refine Rd.set_ ?_ (by simp; omega) _))).mono ?_; rintro e w3 ⟨v3, rfl, ⟨a3, b3, _⟩, hg3, hr3⟩; obtain ⟨hc3, hf3⟩ := pcell hg3; have hl3 := hr3.lt; have hn3 := Nat.ne_of_gt hl3; have hb3 := first_blk (hb2.al (.cells #[.int .i64 t, .int .i64 f, .int .i64 m] 25)) hg3 (by simp; omega); have hp3 := first_blk (Blk.new w2 25 #[.int .i64 t, .int .i64 f, .int .i64 m]) hg3 (by simp; omega); have k1 := hb3.cell; have k2 := hb3.frozen) | (go_at_call 33; refine (pick_c R (993) _ _ (by repeat' first | assumption | refine Rd.al ?_ _ | refine Rd.dr ?_ | (refine Rd.set_ ?_ (by simp; omega) _))).mono ?_; rintro e w4 ⟨v4, rfl, ⟨a4, b4, _⟩, hg4, hr4⟩; obtain ⟨hc4, hf4⟩ := pcell hg4; have hl4 := hr4.lt; have hn4 := Nat.ne_of_gt hl4; have hb4 := hb3.gr hg4 (by simp; omega); have hp4 := hp3.gr hg4 (by simp; omega); have k4 := hb4.cell; have k5 := hb4.frozen)))
  have b3 := b3 (by omega)
  have b4 := b4 (by omega)
  have ev : IntKind.i64.wrap (1 + v3) = 1 + v3 := IntWalk.i64_in _ (by omega)
  have ed : v4.tdiv 19 = v4 / 19 := Int.tdiv_eq_ediv_of_nonneg (by omega)
  rw [ev, ed, IntWalk.i64_in (v4 / 19) (by omega), IntWalk.i64_in _ (by omega)]
  clear ev ed et
  go_wp2_with fail
  have hbz := ((hb4.set_ 0 (.int .i64 t)).set_ 1 (.int .i64 f)).set_ 2 (.int .i64 m)
  have hcz := hbz.cell
  refine bodyPost_ret (v := .tuple #[.agg #[.int .i64 t, .int .i64 f, .int .i64 m], .int .i64 (1 + v3 - v4 / 19)]) (by simp [results, Try.results25, go_sem, hcz]) rfl ⟨t, f, m, _, rfl, ⟨x1, x2, x3, x4, x5, x6⟩, by omega, ?_⟩
  exact bel_set (bel_set (bel_set (bel_gr (bel_gr (bel_al (bel_gr (bel_nx (bel_al (bel_refl _) _) hb1) hg2 (by omega)) _) (first_gr hg3) (by omega)) hg4 (by omega)) (by simp) _) (by simp) _) (by simp) _

theorem drawRetryAt_c (A : Option Addr) (n c : Nat) (zs : List Int) (w : World) (h : IsRow .u8 w A n c zs) : Calls Try.prog 26 #[.slice A n c] w fun e w' =>
    ∃ t f m x, e = .returned (.tuple #[.agg #[.int .i64 t, .int .i64 f, .int .i64 m], .int .i64 x]) ∧ PolBd t f m ∧ (0 ≤ x ∧ x ≤ 20) ∧ Below w.heap.size w w' := by
  go_enter Try.func26, Try.ntmps26
  go_wp2_with fail
  refine (drawRetryWait_c A n c zs _ (h.al _)).mono ?_
  rintro e w1 ⟨t, f, m, x, rfl, hbd, hx, hb1⟩
  have hb2 := (Blk.new w 25 #[.int .i64 0, .int .i64 0, .int .i64 0]).bel hb1
  have hc2 := hb2.cell
  have hf2 := hb2.frozen
  go_wp2_with fail
  have hbz := ((hb2.set_ 0 (.int .i64 t)).set_ 1 (.int .i64 f)).set_ 2 (.int .i64 m)
  have hcz := hbz.cell
  refine bodyPost_ret (v := .tuple #[.agg #[.int .i64 t, .int .i64 f, .int .i64 m], .int .i64 x]) (by simp [results, Try.results26, go_sem, hcz]) rfl ⟨t, f, m, _, rfl, hbd, hx, ?_⟩
  exact bel_set (bel_set (bel_set (bel_nx (bel_al (bel_refl _) _) hb1) (by simp) _) (by simp) _) (by simp) _

set_option maxHeartbeats 400000 in
theorem drawRetryBy_c (A : Option Addr) (n c : Nat) (zs : List Int) (w : World) (h : IsRow .u8 w A n c zs) : Calls Try.prog 27 #[.slice A n c] w fun e w' =>
    ∃ t f m x, e = .returned (.tuple #[.agg #[.int .i64 t, .int .i64 f, .int .i64 m], .int .i64 x]) ∧ PolBd t f m ∧ (-300 ≤ x ∧ x ≤ 300) ∧ Below w.heap.size w w' := by
  go_enter Try.func27, Try.ntmps27
  go_wp2_with fail
  refine (l6Open_c A n c zs _ (h.al _)).mono ?_
  rintro e w1 ⟨R, rfl, hrd, hb1, hR⟩
  simp at hR
  go_wp2_with fail
  refine (l92Policy_c R 995 _ hrd).mono ?_
  rintro e w2 ⟨t, f, m, rfl, hbd, hg2, hr2⟩
  have hb2 := ((Blk.new w 25 #[.int .i64 0, .int .i64 0, .int .i64 0]).bel hb1).gr hg2 (by simp; omega)
  have hl2 := hr2.lt
  have hn2 := Nat.ne_of_gt hl2
  have hz2 : w.heap.size < w2.heap.size := by have := hb2.lt; omega
  obtain ⟨x1, x2, x3, x4, x5, x6⟩ := hbd
  go_wp2_with fail
  have hne : w2.heap.size ≠ w.heap.size := by omega
  go_region_held3 (fun w' => w'.cell? ⟨w2.heap.size, 0, none⟩ = some (.int .i64 t) ∧ w'.cell? ⟨w2.heap.size, 1, none⟩ = some (.int .i64 f) ∧ w'.cell? ⟨w2.heap.size, 2, none⟩ = some (.int .i64 m))
    (first | go_keep | exact ⟨hp3.cell 0, hp3.cell 1, hp3.cell 2⟩ | exact ⟨hp4.cell 0, hp4.cell 1, hp4.cell 2⟩ | (have q := ((hp4.far (p := ⟨w.heap.size, 0, none⟩) (by simp; omega) (.int .i64 t)).far (p := ⟨w.heap.size, 1, none⟩) (by simp; omega) (.int .i64 f)).far (p := ⟨w.heap.size, 2, none⟩) (by simp; omega) (.int .i64 m); exact ⟨q.cell 0, q.cell 1, q.cell 2⟩))
    ((first | (go_at_call 33; refine (pick_c R (994) _ _ (by repeat' first | assumption | refine Rd.al ?_ _ | refine Rd.dr ?_ | (refine Rd.set_ ?_ (by simp; omega) _))).mono ?_; rintro e w3 ⟨v3, rfl, ⟨a3, b3, _⟩, hg3, hr3⟩; obtain ⟨hc3, hf3⟩ := pcell hg3; have hl3 := hr3.lt; have hn3 := Nat.ne_of_gt hl3; have hb3 := first_blk (hb2.al (.cells #[.int .i64 t, .int .i64 f, .int .i64 m] 25)) hg3 (by simp; omega); have hp3 := first_blk (Blk.new w2 25 #[.int .i64 t, .int .i64 f, .int .i64 m]) hg3 (by simp; omega); have k1 := hb3.cell; have k2 := hb3.frozen) | (go_at_call 33; refine (pick_c R (993) _ _ (by repeat' first | assumption | refine Rd.al ?_ _ | refine Rd.dr ?_ | (refine Rd.set_ ?_ (by simp; omega) _))).mono ?_; rintro e w4 ⟨v4, rfl, ⟨a4, b4, _⟩, hg4, hr4⟩; obtain ⟨hc4, hf4⟩ := pcell hg4; have hl4 := hr4.lt; have hn4 := Nat.ne_of_gt hl4; have hb4 := hb3.gr hg4 (by simp; omega); have hp4 := hp3.gr hg4 (by simp; omega); have k4 := hb4.cell; have k5 := hb4.frozen)))
  have b3 := b3 (by omega)
  have b4 := b4 (by omega)
  have ed : v4.tdiv 19 = v4 / 19 := Int.tdiv_eq_ediv_of_nonneg (by omega)
  rw [ed, IntWalk.i64_in (v4 / 19) (by omega), IntWalk.i64_in (v4 / 19 * 300) (by omega), IntWalk.i64_in _ (by omega)]
  clear ed
  go_wp2_with fail
  have hbz := ((hb4.set_ 0 (.int .i64 t)).set_ 1 (.int .i64 f)).set_ 2 (.int .i64 m)
  have hcz := hbz.cell
  refine bodyPost_ret (v := .tuple #[.agg #[.int .i64 t, .int .i64 f, .int .i64 m], .int .i64 (v3 - v4 / 19 * 300)]) (by simp [results, Try.results27, go_sem, hcz]) rfl ⟨t, f, m, _, rfl, ⟨x1, x2, x3, x4, x5, x6⟩, by omega, ?_⟩
  exact bel_set (bel_set (bel_set (bel_gr (bel_gr (bel_al (bel_gr (bel_nx (bel_al (bel_refl _) _) hb1) hg2 (by omega)) _) (first_gr hg3) (by omega)) hg4 (by omega)) (by simp) _) (by simp) _) (by simp) _
end Go.Proofs.Ytmobpfphehmleaa
