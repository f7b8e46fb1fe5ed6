/- The draw of values of variables. -/
import Derived.Test.YtkfpplnadnkbgaaInts
import Derived.Test.YtkfpplnadnkbgaaDraw
import Derived.Deep.Cut
import Derived.Deep.CutRange
import Derived.Deep.CutBlock
import Derived.Deep.DeepCutAuto
namespace Go.Proofs.Ytkfpplnadnkbgaa
open Go.RowKit

theorem blk_sl {w : World} {g : Nat} {e : TypeId} {l : List Int} {c n : Nat} (h : Blk w g e (l.map (Value.int .i64)).toArray) (hc : n ≤ c) (hm : c ≤ 1000) (hn : n ≤ l.length) : SlI w (some ⟨g, 0, none⟩) n c (l.take n) := by
  refine ⟨by simp; omega, hc, by omega, fun _ => ⟨g, 0, rfl, fun i a ha j u hu => ?_⟩⟩
  match j, hu with
  | 0, hu =>
    simp [encI] at hu
    subst hu
    rw [show 0 + i * 1 + 0 = i by omega, h.cell i]
    have hi : i < n := by
      have := (List.getElem?_eq_some_iff.1 ha).1
      simp at this
      omega
    rw [List.getElem?_take, if_pos hi] at ha
    simp [ha]
  | j + 1, hu => simp [encI] at hu

theorem lit3 (a b c v : Int) (h0 : 0 ≤ v) (h1 : v < 3) : ∃ z : Int, (#[Value.int .i64 a, .int .i64 b, .int .i64 c] : Array Value)[v.toNat]? = some (.int .i64 z) := by
  rcases (show v = 0 ∨ v = 1 ∨ v = 2 by omega) with rfl | rfl | rfl
  · exact ⟨a, rfl⟩
  · exact ⟨b, rfl⟩
  · exact ⟨c, rfl⟩

set_option maxHeartbeats 400000 in
theorem l92Vars_c (R q : Nat) (w : World) (h : Rd w R (q + 7)) : Calls Try.prog 22 #[.pointer (some ⟨R, 0, none⟩)] w fun e w' =>
    ∃ A n c l, e = .returned (.slice A n c) ∧ SlI w' A n c l ∧ n ≤ 4 ∧ w.grownBy w' (some R) ∧ Rd w' R q := by
  have hRw := h.lt
  go_enter Try.func22, Try.ntmps22
  go_wp2_with fail
  refine (pick_c R _ _ _ (by repeat' first | assumption | refine Rd.al ?_ _ | refine Rd.dr ?_ | (refine Rd.set_ ?_ (by simp; omega) _))).mono ?_; rintro e w1 ⟨v1, rfl, ⟨a1, b1, _⟩, hg1, hr1⟩; obtain ⟨hc1, hf1⟩ := pcell hg1; have hl1 := hr1.lt; have hn1 := Nat.ne_of_gt hl1
  go_wp2_with fail
  refine (pick_c R _ _ _ (by repeat' first | assumption | refine Rd.al ?_ _ | refine Rd.dr ?_ | (refine Rd.set_ ?_ (by simp; omega) _))).mono ?_; rintro e w2 ⟨v2, rfl, ⟨a2, b2, _⟩, hg2, hr2⟩; obtain ⟨hc2, hf2⟩ := pcell hg2; have hl2 := hr2.lt; have hn2 := Nat.ne_of_gt hl2
  go_wp2_with fail
  refine (pick_c R _ _ _ (by repeat' first | assumption | refine Rd.al ?_ _ | refine Rd.dr ?_ | (refine Rd.set_ ?_ (by simp; omega) _))).mono ?_; rintro e w3 ⟨v3, rfl, ⟨a3, b3, _⟩, hg3, hr3⟩; obtain ⟨hc3, hf3⟩ := pcell hg3; have hl3 := hr3.lt; have hn3 := Nat.ne_of_gt hl3
  go_wp2_with fail
  refine (pick_c R _ _ _ (by repeat' first | assumption | refine Rd.al ?_ _ | refine Rd.dr ?_ | (refine Rd.set_ ?_ (by simp; omega) _))).mono ?_; rintro e w4 ⟨v4, rfl, ⟨a4, b4, _⟩, hg4, hr4⟩; obtain ⟨hc4, hf4⟩ := pcell hg4; have hl4 := hr4.lt; have hn4 := Nat.ne_of_gt hl4
  go_wp2_with fail
  refine (pick_c R _ _ _ (by repeat' first | assumption | refine Rd.al ?_ _ | refine Rd.dr ?_ | (refine Rd.set_ ?_ (by simp; omega) _))).mono ?_; rintro e w5 ⟨v5, rfl, ⟨a5, b5, _⟩, hg5, hr5⟩; obtain ⟨hc5, hf5⟩ := pcell hg5; have hl5 := hr5.lt; have hn5 := Nat.ne_of_gt hl5
  have hk := ((Blk.new w4 3 #[.int .i64 v1, .int .i64 v2, .int .i64 v3, .int .i64 v4]).gr hg5 (by simp; omega))
  have hG : w.grownBy w5 (some R) := gr_nx (gr_al (gr_nx (gr_nx (gr_nx (gr_nx (gr_refl _ _) hg1) hg2) hg3) hg4) _) hg5
  have hz4 : w.heap.size ≤ w4.heap.size := by have := hg1.size; have := hg2.size; have := hg3.size; have := hg4.size; omega
  clear hc1 hf1 hc2 hf2 hc3 hf3 hc4 hf4 hc5 hf5
  by_cases h50 : v5 = 0
  · have e0 : (v5 == 0) = true := by simpa using h50
    clear h50
    go_wp2_with fail
    refine (pick_c R _ _ _ (by repeat' first | assumption | refine Rd.al ?_ _ | refine Rd.dr ?_ | (refine Rd.set_ ?_ (by simp; omega) _))).mono ?_; rintro e w6 ⟨v6, rfl, ⟨a6, b6, _⟩, hg6, hr6⟩; obtain ⟨hc6, hf6⟩ := pcell hg6; have hl6 := hr6.lt; have hn6 := Nat.ne_of_gt hl6
    have hk6 := hk.gr hg6 (by simp; omega)
    clear hc6 hf6
    go_wp2_with fail
    refine (pick_c R _ _ _ (by repeat' first | assumption | refine Rd.al ?_ _ | refine Rd.dr ?_ | (refine Rd.set_ ?_ (by simp; omega) _))).mono ?_; rintro e w7 ⟨v7, rfl, ⟨a7, b7, _⟩, hg7, hr7⟩; obtain ⟨hc7, hf7⟩ := pcell hg7; have hl7 := hr7.lt; have hn7 := Nat.ne_of_gt hl7
    have hk7 := (hk6.al (.cells #[.int .i64 (-1), .int .i64 99, .int .i64 100] 3)).gr hg7 (by simp; omega)
    obtain ⟨z, hlit⟩ := lit3 (-1) 99 100 v7 a7 (b7 (by omega))
    have hx := (((Blk.new w6 3 #[.int .i64 (-1), .int .i64 99, .int .i64 100]).gr hg7 (by simp; omega)).cell v7.toNat).trans hlit
    have hf := hk7.frozen
    obtain ⟨v0, hco⟩ : ∃ v0, w7.cell? ⟨w4.heap.size, v6.toNat, none⟩ = some v0 := by rw [hk7.cell]; exact ⟨_, Array.getElem?_eq_getElem (by simp; omega)⟩
    clear hc7 hf7 hlit
    go_wp2_with fail
    go_ret
    have hs := hk7.set_ v6.toNat (.int .i64 z)
    refine ⟨_, _, _, _, rfl, blk_sl (l := [v1, v2, v3, v4].set v6.toNat z) (by rw [← map_set]; simpa using hs) (Nat.le_refl _) (by omega) (by simp), Nat.le_refl _, ?_, ?_⟩
    · exact gr_set (gr_nx (gr_al (gr_nx hG hg6) _) hg7) (by simp; omega) _
    · exact hr7.set_ (by simp; omega) _
  · have e0 : (v5 == 0) = false := by simpa using h50
    by_cases h51 : v5 = 1
    · have e1 : (v5 == 1) = true := by simpa using h51
      clear h50 h51
      go_wp2_with fail
      go_ret
      exact ⟨_, _, _, _, rfl, blk_sl (l := [v1, v2, v3, v4]) (by simpa using hk) (by omega) (by omega) (by simp), by omega, hG, hr5.less (by omega)⟩
    · have e1 : (v5 == 1) = false := by simpa using h51
      clear h50 h51
      go_wp2_with fail
      go_ret
      exact ⟨_, _, _, _, rfl, blk_sl (l := [v1, v2, v3, v4]) (by simpa using hk) (Nat.le_refl _) (by omega) (by simp), Nat.le_refl _, hG, hr5.less (by omega)⟩

theorem drawVarsValid_c (A : Option Addr) (n c : Nat) (zs : List Int) (w : World) (h : IsRow .u8 w A n c zs) : Calls Try.prog 12 #[.slice A n c] w fun e w' =>
    ∃ A' n' c' l, e = .returned (.slice A' n' c') ∧ SlI w' A' n' c' l ∧ n' ≤ 4 ∧ Below w.heap.size w w' := by
  go_enter Try.func12, Try.ntmps12
  go_wp2_with fail
  refine (l6Open_c A n c zs _ h).mono ?_
  rintro e w1 ⟨R, rfl, hrd, hb1, hR⟩
  go_wp2_with fail
  refine (l92Vars_c R 993 _ hrd).mono ?_
  rintro e w2 ⟨A', n', c', l, rfl, hs, hn, hg2, hr2⟩
  go_wp2_with fail
  go_ret
  exact ⟨_, _, _, _, rfl, hs, hn, bel_gr hb1 hg2 hR⟩

end Go.Proofs.Ytkfpplnadnkbgaa
