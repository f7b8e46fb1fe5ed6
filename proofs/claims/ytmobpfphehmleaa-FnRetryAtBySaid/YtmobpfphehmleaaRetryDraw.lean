/- The draws of policies, tries and times. -/
import Derived.Test.YtmobpfphehmleaaDraw
import Derived.RegionTactic
import Derived.Deep.RegionWith
import Derived.Deep.Cut
import Derived.Deep.CutRange
import Derived.Deep.CutBlock
import Derived.Deep.RegionHeld3
import Derived.Deep.DeepCutAuto
namespace Go.Proofs.Ytmobpfphehmleaa
open Go.RowKit

/-- The bounds of a policy that was drawn. -/
def PolBd (t f m : Int) : Prop := 0 ≤ t ∧ t ≤ 9 ∧ 1 ≤ f ∧ f ≤ 20 ∧ 0 ≤ m ∧ m ≤ 501

theorem first_blk {w w' : World} {g : Nat} {t : TypeId} {cs : Array Value} {row : Option Nat} (h : Blk w g t cs) (hb : w.drew.grownBy w' row) (hg : some g ≠ row) : Blk w' g t cs := (hb.block g h.lt hg).trans h
theorem first_gr {w w' : World} {row : Option Nat} (hb : w.drew.grownBy w' row) : w.grownBy w' row := ⟨hb.os, hb.tape, hb.output, hb.size, hb.block⟩

theorem lit2 (a b v : Int) (h0 : 0 ≤ v) (h1 : v < 2) : ∃ z : Int, (∀ h, [Value.int .i64 a, .int .i64 b][v.toNat]'h = .int .i64 z) ∧ (z = a ∨ z = b) := by
  rcases (show v = 0 ∨ v = 1 by omega) with rfl | rfl
  · exact ⟨a, fun _ => rfl, .inl rfl⟩
  · exact ⟨b, fun _ => rfl, .inr rfl⟩
theorem lit3 (a b c v : Int) (h0 : 0 ≤ v) (h1 : v < 3) : ∃ z : Int, (∀ h, [Value.int .i64 a, .int .i64 b, .int .i64 c][v.toNat]'h = .int .i64 z) ∧ (z = a ∨ z = b ∨ z = c) := by
  rcases (show v = 0 ∨ v = 1 ∨ v = 2 by omega) with rfl | rfl | rfl
  · exact ⟨a, fun _ => rfl, .inl rfl⟩
  · exact ⟨b, fun _ => rfl, .inr (.inl rfl)⟩
  · exact ⟨c, fun _ => rfl, .inr (.inr rfl)⟩

set_option maxHeartbeats 400000 in
theorem l92Policy_c (R q : Nat) (w : World) (h : Rd w R (q + 5)) : Calls Try.prog 29 #[.pointer (some ⟨R, 0, none⟩)] w fun e w' =>
    ∃ t f m, e = .returned (.agg #[.int .i64 t, .int .i64 f, .int .i64 m]) ∧ PolBd t f m ∧ w.grownBy w' (some R) ∧ Rd w' R q := by
  have hRw := h.lt
  have hn0 : w.heap.size ≠ R := by omega
  go_enter Try.func29, Try.ntmps29
  go_wp2_with fail
  refine (pick_c R _ _ _ (by repeat' first | assumption | refine Rd.al ?_ _ | refine Rd.dr ?_ | (refine Rd.set_ ?_ (by simp; omega) _))).mono ?_; rintro e w1 ⟨v1, rfl, ⟨a1, b1, _⟩, hg1, hr1⟩; obtain ⟨hc1, hf1⟩ := pcell hg1; have hl1 := hr1.lt; have hn1 := Nat.ne_of_gt hl1
  go_wp2_with fail
  refine (pick_c R _ _ _ (by repeat' first | assumption | refine Rd.al ?_ _ | refine Rd.dr ?_ | (refine Rd.set_ ?_ (by simp; omega) _))).mono ?_; rintro e w2 ⟨v2, rfl, ⟨a2, b2, _⟩, hg2, hr2⟩; obtain ⟨hc2, hf2⟩ := pcell hg2; have hl2 := hr2.lt; have hn2 := Nat.ne_of_gt hl2
  go_wp2_with fail
  go_cut [] (fun wc => ∃ t f m : Int, 1 ≤ t ∧ t ≤ 8 ∧ 1 ≤ f ∧ f ≤ 20 ∧ 1 ≤ m ∧ m ≤ 120 ∧ Blk wc w2.heap.size 25 #[.int .i64 t, .int .i64 f, .int .i64 m] ∧ Blk wc w.heap.size 25 #[.int .i64 0, .int .i64 0, .int .i64 0] ∧ Rd wc R (q + 2) ∧ w.grownBy wc (some R))
  case first =>
    go_region_with (go_at_call 33; refine (pick_c R _ _ _ (by repeat' first | assumption | refine Rd.al ?_ _ | refine Rd.dr ?_ | (refine Rd.set_ ?_ (by simp; omega) _))).mono ?_; rintro e w3 ⟨v3, rfl, ⟨a3, b3, _⟩, hg3, hr3⟩; obtain ⟨hc3, hf3⟩ := pcell hg3; have hl3 := hr3.lt; have hn3 := Nat.ne_of_gt hl3)
    all_goals
      go_wp2_with fail
      go_meet
    all_goals case rel =>
      have hz : w.heap.size + 1 ≤ w2.heap.size := by have h1 := hg1.size; have h2 := hg2.size; simp at h1; omega
      have hb2 := (first_blk (Blk.new w2 25 #[.int .i64 (1 + v1), .int .i64 (1 + v2), .int .i64 0]) hg3 (by simp; omega)).set_ 2 (.int .i64 (IntKind.i64.wrap (1 + v2 + v3)))
      have hb0 := (first_blk (((((Blk.new w 25 #[.int .i64 0, .int .i64 0, .int .i64 0]).gr hg1 (by simp; omega)).gr hg2 (by simp; omega)).al (.cells #[.int .i64 (1 + v1), .int .i64 (1 + v2), .int .i64 0] 25))) hg3 (by simp; omega)).far (p := ⟨w2.heap.size, 2, none⟩) (by simp; omega) (.int .i64 (IntKind.i64.wrap (1 + v2 + v3)))
      rw [IntWalk.i64_in _ (by omega)] at hb0 hb2 ⊢
      exact ⟨1 + v1, 1 + v2, 1 + v2 + v3, by omega, by omega, by omega, by omega, by omega, by omega, by simpa using hb2, hb0, hr3.set_ (by simp; omega) _, gr_set (gr_nx (gr_al (gr_nx (gr_nx (gr_al (gr_refl _ _) _) hg1) hg2) _) (first_gr hg3)) (by simp; omega) _⟩
  case rest =>
    obtain ⟨t, f, m, bt1, bt2, bf1, bf2, bm1, bm2, hbp, hb0, hrd, hgr⟩ := hcut
    have hcp := hbp.cell
    have hfp := hbp.frozen
    have hc0 := hb0.cell
    have hf0 := hb0.frozen
    have hz : w.heap.size + 1 ≤ w2.heap.size := by have h1 := hg1.size; have h2 := hg2.size; simp at h1; omega
    clear hc1 hc2 hf1 hf2 
    go_wp2_with fail
    refine (pick_c R _ _ _ (by repeat' first | assumption | refine Rd.al ?_ _ | refine Rd.dr ?_ | (refine Rd.set_ ?_ (by simp; omega) _))).mono ?_; rintro e w4 ⟨v4, rfl, ⟨a4, b4, _⟩, hg4, hr4⟩; obtain ⟨hc4, hf4⟩ := pcell hg4; have hl4 := hr4.lt; have hn4 := Nat.ne_of_gt hl4
    go_upto_block 0 with fail
    go_cut [] (fun wc => ∃ t f m : Int, PolBd t f m ∧ Blk wc w2.heap.size 25 #[.int .i64 t, .int .i64 f, .int .i64 m] ∧ Blk wc w.heap.size 25 #[.int .i64 0, .int .i64 0, .int .i64 0] ∧ Rd wc R q ∧ w.grownBy wc (some R))
    case first =>
      by_cases h40 : v4 = 0
      · have e0 : (v4 == 0) = true := by simpa using h40
        clear h40
        go_wp2_with fail
        refine (pick_c R _ _ _ (by repeat' first | assumption | refine Rd.al ?_ _ | refine Rd.dr ?_ | (refine Rd.set_ ?_ (by simp; omega) _))).mono ?_; rintro e w5 ⟨v5, rfl, ⟨a5, b5, _⟩, hg5, hr5⟩; obtain ⟨hc5, hf5⟩ := pcell hg5; have hl5 := hr5.lt; have hn5 := Nat.ne_of_gt hl5
        obtain ⟨z, hlit, hz0⟩ := lit2 0 9 v5 a5 (b5 (by omega))
        have hb05 := ((hb0.gr hg4 (by simp; omega)).al (.cells #[.int .i64 0, .int .i64 9] 3)).gr hg5 (by simp; omega)
        have hbp5 := ((hbp.gr hg4 (by simp; omega)).al (.cells #[.int .i64 0, .int .i64 9] 3)).gr hg5 (by simp; omega)
        have hc05 := hb05.cell
        have hf05 := hb05.frozen
        have hcp5 := hbp5.cell
        have hfp5 := hbp5.frozen
        go_wp2_with fail
        go_meet
        case rel => exact ⟨z, f, m, ⟨by omega, by omega, by omega, by omega, by omega, by omega⟩, by simpa using hbp5.set_ 0 (.int .i64 z), hb05.far (by simp; omega) _, (hr5.less (by omega)).set_ (by simp; omega) _, gr_set (gr_nx (gr_al (gr_nx hgr hg4) _) hg5) (by simp; omega) _⟩
      · by_cases h41 : v4 = 1
        · have e0 : (v4 == 0) = false := by simpa using h40
          have e1 : (v4 == 1) = true := by simpa using h41
          clear h41 h40
          have ew : IntKind.i64.wrap (f - 1) = f - 1 := IntWalk.i64_in _ (by omega)
          go_wp2_with fail
          go_region_with (go_at_call 33; refine (pick_c R _ _ _ (by repeat' first | assumption | refine Rd.al ?_ _ | refine Rd.dr ?_ | (refine Rd.set_ ?_ (by simp; omega) _))).mono ?_; rintro e w5 ⟨v5, rfl, ⟨a5, b5, _⟩, hg5, hr5⟩; obtain ⟨hc5, hf5⟩ := pcell hg5; have hl5 := hr5.lt; have hn5 := Nat.ne_of_gt hl5; obtain ⟨z, hlit, hz0⟩ := lit3 (f - 1) 500 501 v5 a5 (b5 (by omega)); obtain ⟨hb05, hbp5⟩ : Blk w5 w.heap.size 25 #[.int .i64 0, .int .i64 0, .int .i64 0] ∧ Blk w5 w2.heap.size 25 #[.int .i64 t, .int .i64 f, .int .i64 m] := (by first | exact ⟨first_blk ((hb0.gr hg4 (by simp; omega)).al _) hg5 (by simp; omega), first_blk ((hbp.gr hg4 (by simp; omega)).al _) hg5 (by simp; omega)⟩ | exact ⟨first_blk (hb0.gr hg4 (by simp; omega)) hg5 (by simp; omega), first_blk (hbp.gr hg4 (by simp; omega)) hg5 (by simp; omega)⟩); have hc05 := hb05.cell; have hf05 := hb05.frozen; have hcp5 := hbp5.cell; have hfp5 := hbp5.frozen)
          all_goals
            go_wp2_with fail
            go_meet
          all_goals case rel =>
            first
              | exact ⟨t, f, z, ⟨by omega, by omega, by omega, by omega, by omega, by omega⟩, by simpa using hbp5.set_ 2 (.int .i64 z), hb05.far (by simp; omega) _, (hr5.less (by omega)).set_ (by simp; omega) _, gr_set (gr_nx (gr_al (gr_nx hgr hg4) _) (first_gr hg5)) (by simp; omega) _⟩
              | exact ⟨t, f, z, ⟨by omega, by omega, by omega, by omega, by omega, by omega⟩, by simpa using (hbp5.al _).set_ 2 (.int .i64 z), (hb05.al _).far (by simp; omega) _, ((hr5.less (by omega)).al _).set_ (by simp; omega) _, gr_set (gr_al (gr_nx (gr_nx hgr hg4) (first_gr hg5)) _) (by simp; omega) _⟩
        · have e0 : (v4 == 0) = false := by simpa using h40
          have e1 : (v4 == 1) = false := by simpa using h41
          go_wp2_with fail
          go_meet
          case rel => exact ⟨t, f, m, ⟨by omega, by omega, by omega, by omega, by omega, by omega⟩, hbp.gr hg4 (by simp; omega), hb0.gr hg4 (by simp; omega), hr4.less (by omega), gr_nx hgr hg4⟩
    case rest =>
      clear hc4 hf4 hcp hfp hc0 hf0 hb0 hbp hrd hgr hr4 bt1 bt2 bf1 bf2 bm1 bm2
      obtain ⟨t, f, m, hbd, hbp, hb0, hrd, hgr⟩ := hcut
      have hcp := hbp.cell
      have hc0 := hb0.cell
      have hf0 := hb0.frozen
      go_wp2_with fail
      have hbz := ((hb0.set_ 0 (.int .i64 t)).set_ 1 (.int .i64 f)).set_ 2 (.int .i64 m)
      have hcz := hbz.cell
      refine bodyPost_ret (v := .agg #[.int .i64 t, .int .i64 f, .int .i64 m]) (by simp [results, Try.results29, go_sem, hcz]) rfl ⟨t, f, m, rfl, hbd, ?_, ?_⟩
      · exact gr_set (gr_set (gr_set hgr (by simp) _) (by simp) _) (by simp) _
      · exact ((hrd.set_ (by simp; omega) _).set_ (by simp; omega) _).set_ (by simp; omega) _
theorem drawPolicyValid_c (A : Option Addr) (n c : Nat) (zs : List Int) (w : World) (h : IsRow .u8 w A n c zs) : Calls Try.prog 18 #[.slice A n c] w fun e w' =>
    ∃ t f m, e = .returned (.agg #[.int .i64 t, .int .i64 f, .int .i64 m]) ∧ PolBd t f m ∧ Below w.heap.size w w' := by
  go_enter Try.func18, Try.ntmps18
  go_wp2_with fail
  refine (l6Open_c A n c zs _ (h.al _)).mono ?_
  rintro e w1 ⟨R, rfl, hrd, hb1, hR⟩
  simp at hR
  go_wp2_with fail
  refine (l92Policy_c R 995 _ hrd).mono ?_
  rintro e w2 ⟨t, f, m, rfl, hbd, hg2, hr2⟩
  have hb2 := ((Blk.new w 25 #[.int .i64 0, .int .i64 0, .int .i64 0]).bel hb1).gr hg2 (by simp; omega)
  have hc2 := hb2.cell
  have hf2 := hb2.frozen
  go_wp2_with fail
  have hbz := ((hb2.set_ 0 (.int .i64 t)).set_ 1 (.int .i64 f)).set_ 2 (.int .i64 m)
  have hcz := hbz.cell
  refine bodyPost_ret (v := .agg #[.int .i64 t, .int .i64 f, .int .i64 m]) (by simp [results, Try.results18, go_sem, hcz]) rfl ⟨t, f, m, rfl, hbd, ?_⟩
  exact bel_set (bel_set (bel_set (bel_gr (bel_nx (bel_al (bel_refl _) _) hb1) hg2 (by omega)) (by simp) _) (by simp) _) (by simp) _

end Go.Proofs.Ytmobpfphehmleaa
