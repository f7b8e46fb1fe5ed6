/- The draws of inboxes, and of inboxes beside a number. -/
import Derived.Test.YtdcojlbekpcejaaInboxTakeS
import Derived.Test.YtdcojlbekpcejaaDraw
import Derived.RegionTactic
import Derived.Deep.RegionWith
import Derived.Deep.RegionHeld3
namespace Go.Proofs.Ytdcojlbekpcejaa
open Go.RowKit

theorem lit2 (a b v : Int) (h0 : 0 ≤ v) (h1 : v < 2) : ∃ z : Int, (#[Value.int .i64 a, .int .i64 b] : Array Value)[v.toNat]? = some (.int .i64 z) ∧ (z = a ∨ z = b) := by
  rcases (show v = 0 ∨ v = 1 by omega) with rfl | rfl
  · exact ⟨a, rfl, .inl rfl⟩
  · exact ⟨b, rfl, .inr rfl⟩

set_option maxRecDepth 20000 in
set_option maxHeartbeats 2000000 in
theorem l92Inbox_c (R q : Nat) (w : World) (h : Rd w R (q + 11)) : Calls Try.prog 39 #[.pointer (some ⟨R, 0, none⟩)] w fun e w' =>
    ∃ (a : Int) (A : Option Addr) (n c : Nat) (l : List Int), e = .returned (.agg #[.int .i64 a, .slice A n c]) ∧ w'.ownsRow w.heap.size 3 1 (.slice A n c) n (l.map (Value.int .i64)) ∧ n ≤ 7 ∧ -1 ≤ a ∧ a ≤ 999 ∧ w.grownBy w' (some R) ∧ Rd w' R q := by
  obtain ⟨i0, hi0, hz0, hz1, hz2⟩ := info_parts int_info
  have hRw := h.lt
  have hn0 : w.heap.size ≠ R := by omega
  go_enter Try.func39, Try.ntmps39
  go_wp2_with fail
  have kr0 := Blk.new w 25 #[.int .i64 0, .slice none 0 0]
  refine (pick_c R (q + 10) _ _ (by repeat' first | assumption | refine Rd.al ?_ _ | refine Rd.dr ?_ | (refine Rd.set_ ?_ (by simp; omega) _))).mono ?_; rintro e w1 ⟨v1, rfl, ⟨a1, b1, _⟩, hg1, hr1⟩; obtain ⟨hc1, hf1⟩ := pcell hg1; have hl1 := hr1.lt; have hn1 := Nat.ne_of_gt hl1
  have kr1 := kr0.gr hg1 (by simp; omega)
  have hG1 : w.grownBy w1 (some R) := gr_nx (gr_al (gr_refl _ _) _) hg1
  have hz1' : w.heap.size + 1 ≤ w1.heap.size := by have := hg1.size; simpa using this
  clear hc1 hf1 kr0
  have cr1 := kr1.cell
  have fr1 := kr1.frozen
  have hwv : IntKind.i64.wrap (v1 + 1) = v1 + 1 := by rw [IntKind.wrap_i64]; omega
  go_wp2_with fail
  have kB1 := Blk.new (w1.alloc (.cells #[] 3)) 25 #[.int .i64 v1, .slice (some ⟨w1.heap.size, 0, none⟩) 0 0]
  have ho1 := (lit_own w1 (B := w.heap.size) (by omega)).alloc (.cells #[.int .i64 v1, .slice (some ⟨w1.heap.size, 0, none⟩) 0 0] 25)
  have kr2 := (kr1.al (.cells #[] 3)).al (.cells #[.int .i64 v1, .slice (some ⟨w1.heap.size, 0, none⟩) 0 0] 25)
  have hG2 : w.grownBy ((w1.alloc (.cells #[] 3)).alloc (.cells #[.int .i64 v1, .slice (some ⟨w1.heap.size, 0, none⟩) 0 0] 25)) (some R) := gr_al (gr_al hG1 _) _
  simp only [World.alloc, Array.size_push] at kB1
  refine (pick_c R (q + 9) _ _ (by repeat' first | assumption | refine Rd.al ?_ _ | refine Rd.dr ?_ | (refine Rd.set_ ?_ (by simp; omega) _))).mono ?_; rintro e w2 ⟨v2, rfl, ⟨a2, b2, _⟩, hg2, hr2⟩; obtain ⟨hc2, hf2⟩ := pcell hg2; have hl2 := hr2.lt; have hn2 := Nat.ne_of_gt hl2
  have kB2 := kB1.gr hg2 (by simp; omega)
  have kr2 := kr2.gr hg2 (by simp; omega)
  have ho2 := own_gr ho1 hg2 hRw
  have hG2 := gr_nx hG2 hg2
  clear hc2 hf2 cr1 fr1 kB1 ho1 kr1
  go_wp2_with fail
  refine (pick_c R (q + 8) _ _ (by repeat' first | assumption | refine Rd.al ?_ _ | refine Rd.dr ?_ | (refine Rd.set_ ?_ (by simp; omega) _))).mono ?_; rintro e w3 ⟨v3, rfl, ⟨a3, b3, _⟩, hg3, hr3⟩; obtain ⟨hc3, hf3⟩ := pcell hg3; have hl3 := hr3.lt; have hn3 := Nat.ne_of_gt hl3
  have kB3 := kB2.gr hg3 (by simp; omega)
  have kr3 := kr2.gr hg3 (by simp; omega)
  have ho3 := own_gr ho2 hg3 hRw
  have hG3 := gr_nx hG2 hg3
  clear hc3 hf3 kB2 kr2 ho2
  have hz3 : w1.heap.size + 2 ≤ w3.heap.size := by have := kB3.lt; omega
  obtain ⟨g, hg⟩ : ∃ g, g = w1.heap.size + 1 := ⟨_, rfl⟩
  have hgg : w.heap.size < g := by omega
  rw [← hg] at kB3 ⊢
  obtain ⟨A0, hA0⟩ : ∃ A0 : Option Addr, A0 = some ⟨w1.heap.size, 0, none⟩ := ⟨_, rfl⟩
  rw [← hA0] at kB3 ho3
  clear hg hA0 hG2 hg2 hg3 hg1 hG1
  by_cases h0 : v3 = 0
  · have e0 : (v3 == 0) = true := by simpa using h0
    clear h0
    go_wp2_with fail
    go_loopw [4, 6] (fun nv iv wr => ∃ (i c' : Nat) (nn : Int) (A' : Option Addr) (out : List Int), i ≤ 6 ∧ iv = .int .i64 (i : Int) ∧ nv = .int .i64 nn ∧ 0 ≤ nn ∧ nn ≤ 1000 + 3 * i ∧ wr.ownsRow w.heap.size 3 1 (.slice A' i c') i (out.map (Value.int .i64)) ∧ Blk wr g 25 #[.int .i64 v1, .slice A' i c'] ∧ Blk wr w.heap.size 25 #[.int .i64 0, .slice none 0 0] ∧ w.grownBy wr (some R) ∧ Rd wr R (q + 8 - i)) (fun _ iv _ => 6 - (intOf iv).toNat)
    case atStart => exact ⟨0, 0, v1 + 1, A0, [], Nat.zero_le _, rfl, rfl, by omega, by have := b1 (by omega); omega, ho3, kB3, kr3, hG3, hr3⟩
    case round =>
      obtain ⟨i, c', nn, A', out, hi, rfl, rfl, hn0, hn1, hown, hB, hR, hgr, hrd⟩ := hrel
      have cB := hB.cell
      have fB := hB.frozen
      have cR := hR.cell
      have fR := hR.frozen
      have hzr := hgr.size
      by_cases hlt : i < 6
      · have hrd : Rd wr R (q + 7 - i + 1) := by rw [show q + 7 - i + 1 = q + 8 - i by omega]; exact hrd
        go_wp2_with fail
        refine (pick_c R (q + 7 - i) _ _ (by repeat' first | assumption | refine Rd.al ?_ _ | refine Rd.dr ?_ | (refine Rd.set_ ?_ (by simp; omega) _))).mono ?_; rintro e w4 ⟨v4, rfl, ⟨a4, b4, _⟩, hg4, hr4⟩; obtain ⟨hc4, hf4⟩ := pcell hg4; have hl4 := hr4.lt; have hn4 := Nat.ne_of_gt hl4
        have hB := hB.gr hg4 (by simp; omega)
        have hR := hR.gr hg4 (by simp; omega)
        have hown := own_gr hown hg4 hRw
        have hgr := gr_nx hgr hg4
        have hzr := hgr.size
        clear hc4 hf4 cB fB cR fR
        have cB := hB.cell
        have fB := hB.frozen
        have b4 := b4 (by omega)
        have hwd : IntKind.i64.wrap (v4 / 2) = v4 / 2 := by rw [IntKind.wrap_i64]; omega
        have hwn : IntKind.i64.wrap (nn + 1) = nn + 1 := by rw [IntKind.wrap_i64]; omega
        have hwn2 : IntKind.i64.wrap (nn + 1 + v4 / 2) = nn + 1 + v4 / 2 := by rw [IntKind.wrap_i64]; omega
        go_wp2_with (at_builtin; refine wpList_append_sl (enc := encI) rfl _ _ 23 rfl w.heap.size 3 i0 (.int .i64 0) 1 8 Try.underlying23 hi0 hz0 hz1 hz2 rfl (by decide) (.slice A' i c') i (out.map (Value.int .i64)) rfl (hown.alloc _) (some ⟨w4.heap.size, 0, none⟩) 1 1 [nn + 1 + v4 / 2] rfl (fun _ => rfl) (Sl.one (Blk.new _ _ _)) one_I (by unfold maxLen; omega) (by omega) (by simp; omega) ?_; intro v9 w9 ho9 hg9 hl9; obtain ⟨A9, c9, rfl⟩ := own_form ho9; rw [flat_encI, ← List.map_append] at ho9; have hB9 := app_blk hB hg9 (fun e => own_ne_blk hown hB (by decide) e.symm); have hR9 := app_blk hR hg9 (fun e => own_ne_blk hown hR (by decide) e.symm); have cB9 := hB9.cell; have fB9 := hB9.frozen; have cR9 := hR9.cell; have fR9 := hR9.frozen)
        go_roundw
        case rel => exact ⟨i + 1, c9, nn + 1 + v4 / 2, A9, out ++ [nn + 1 + v4 / 2], by omega, by go_num, rfl, by omega, by omega, own_cell ho9 hB9 (by decide) 1 _, by simpa using hB9.set_ 1 (.slice A9 (i + 1) c9), hR9.far (by simp; omega) _, gr_set (app_gr hgr hg9 (fun k hk => (hown.lt k hk).1)) (by simp; omega) _, (app_rd (by rw [show q + 8 - (i + 1) = q + 7 - i by omega]; exact hr4) hg9 (fun k hk => by have := (hown.lt k hk).1; omega)).set_ (by simp; omega) _⟩
        case measure => simp [intOf]; omega
      · have hik : i ≤ 6 := by omega
        have hv1 : v1 < 6 := b1 (by omega)
        have hrd : Rd wr R (q + 1 + 1) := hrd.less (by omega)
        go_wp2_with fail
        refine (pick_c R (q + 1) _ _ (by repeat' first | assumption | refine Rd.al ?_ _ | refine Rd.dr ?_ | (refine Rd.set_ ?_ (by simp; omega) _))).mono ?_; rintro e w5 ⟨v5, rfl, ⟨a5, b5, _⟩, hg5, hr5⟩; obtain ⟨hc5, hf5⟩ := pcell hg5; have hl5 := hr5.lt; have hn5 := Nat.ne_of_gt hl5
        have hB := hB.gr hg5 (by simp; omega)
        have hR := hR.gr hg5 (by simp; omega)
        have hown := own_gr hown hg5 hRw
        have hgr := gr_nx hgr hg5
        have hzr := hgr.size
        clear hc5 hf5 cB fB cR fR
        have cB := hB.cell
        have fB := hB.frozen
        have cR := hR.cell
        have fR := hR.frozen
        by_cases h50 : v5 = 0
        · have e50 : (v5 == 0) = true := by simpa using h50
          clear h50
          go_wp2_with fail
          refine (pick_c R (q) _ _ (by repeat' first | assumption | refine Rd.al ?_ _ | refine Rd.dr ?_ | (refine Rd.set_ ?_ (by simp; omega) _))).mono ?_; rintro e w6 ⟨v6, rfl, ⟨a6, b6, _⟩, hg6, hr6⟩; obtain ⟨hc6, hf6⟩ := pcell hg6; have hl6 := hr6.lt; have hn6 := Nat.ne_of_gt hl6
          have kl := (Blk.new w5 3 #[.int .i64 (-1), .int .i64 999]).gr hg6 (by simp; omega)
          obtain ⟨z, hlit, hz⟩ := lit2 (-1) 999 v6 a6 (b6 (by omega))
          have hx := (kl.cell v6.toNat).trans hlit
          have hB := (hB.al (.cells #[.int .i64 (-1), .int .i64 999] 3)).gr hg6 (by simp; omega)
          have hR := (hR.al (.cells #[.int .i64 (-1), .int .i64 999] 3)).gr hg6 (by simp; omega)
          have hown := own_gr (hown.alloc (.cells #[.int .i64 (-1), .int .i64 999] 3)) hg6 hRw
          have hgr := gr_nx (gr_al hgr (.cells #[.int .i64 (-1), .int .i64 999] 3)) hg6
          clear hc6 hf6 cB fB cR fR hlit
          have cB := hB.cell
          have fB := hB.frozen
          have cR := hR.cell
          have fR := hR.frozen
          go_wp2_with fail
          have hR7 := hR.far (p := ⟨g, 0, none⟩) (by simp; omega) (.int .i64 z)
          have ho7 := own_cell hown hB (by decide) 0 (.int .i64 z)
          have hgr7 := gr_set hgr (a := ⟨g, 0, none⟩) (by simp; omega) (.int .i64 z)
          have hrd7 := hr6.set_ (a := ⟨g, 0, none⟩) (by simp; omega) (.int .i64 z)
          have kz := (hR7.set_ 0 (.int .i64 z)).set_ 1 (.slice A' i c')
          have cz := kz.cell
          refine bodyPost_ret (v := .agg #[.int .i64 z, .slice A' i c']) (by simp [results, Try.results39, go_sem, cz]) rfl ⟨z, A', i, c', out, rfl, own_cell (own_cell ho7 hR7 (by decide) 0 _) (hR7.set_ 0 (.int .i64 z)) (by decide) 1 _, by omega, by omega, by omega, gr_set (gr_set hgr7 (by simp) _) (by simp) _, (hrd7.set_ (by simp; omega) _).set_ (by simp; omega) _⟩
        · have e50 : (v5 == 0) = false := by simpa using h50
          by_cases h51 : v5 = 1
          · have e51 : (v5 == 1) = true := by simpa using h51
            clear h50 h51
            go_wp2_with (at_builtin; refine wpList_append_sl (enc := encI) rfl _ _ 23 rfl w.heap.size 3 i0 (.int .i64 0) 1 8 Try.underlying23 hi0 hz0 hz1 hz2 rfl (by decide) (.slice A' i c') i (out.map (Value.int .i64)) rfl (hown.alloc _) (some ⟨w5.heap.size, 0, none⟩) 1 1 [nn] rfl (fun _ => rfl) (Sl.one (Blk.new _ _ _)) one_I (by unfold maxLen; omega) (by omega) (by simp; omega) ?_; intro v9 w9 ho9 hg9 hl9; obtain ⟨A9, c9, rfl⟩ := own_form ho9; rw [flat_encI, ← List.map_append] at ho9; have hB9 := app_blk hB hg9 (fun e => own_ne_blk hown hB (by decide) e.symm); have hR9 := app_blk hR hg9 (fun e => own_ne_blk hown hR (by decide) e.symm); have cB9 := hB9.cell; have fB9 := hB9.frozen; have cR9 := hR9.cell; have fR9 := hR9.frozen)
            have hR7 := hR9.far (p := ⟨g, 1, none⟩) (by simp; omega) (.slice A9 (i + 1) c9)
            have ho7 := own_cell ho9 hB9 (by decide) 1 (.slice A9 (i + 1) c9)
            have hgr7 := gr_set (app_gr hgr hg9 (fun k hk => (hown.lt k hk).1)) (a := ⟨g, 1, none⟩) (by simp; omega) (.slice A9 (i + 1) c9)
            have hrd7 := (app_rd (hr5.less (q' := q) (by omega)) hg9 (fun k hk => by have := (hown.lt k hk).1; omega)).set_ (a := ⟨g, 1, none⟩) (by simp; omega) (.slice A9 (i + 1) c9)
            have kz := (hR7.set_ 0 (.int .i64 v1)).set_ 1 (.slice A9 (i + 1) c9)
            have cz := kz.cell
            refine bodyPost_ret (v := .agg #[.int .i64 v1, .slice A9 (i + 1) c9]) (by simp [results, Try.results39, go_sem, cz]) rfl ⟨v1, A9, (i + 1), c9, out ++ [nn], rfl, own_cell (own_cell ho7 hR7 (by decide) 0 _) (hR7.set_ 0 (.int .i64 v1)) (by decide) 1 _, by omega, by omega, by omega, gr_set (gr_set hgr7 (by simp) _) (by simp) _, (hrd7.set_ (by simp; omega) _).set_ (by simp; omega) _⟩
          · have e51 : (v5 == 1) = false := by simpa using h51
            clear h50 h51
            go_wp2_with fail
            have hrd7 := hr5.less (q' := q) (by omega)
            have kz := (hR.set_ 0 (.int .i64 v1)).set_ 1 (.slice A' i c')
            have cz := kz.cell
            refine bodyPost_ret (v := .agg #[.int .i64 v1, .slice A' i c']) (by simp [results, Try.results39, go_sem, cz]) rfl ⟨v1, A', i, c', out, rfl, own_cell (own_cell hown hR (by decide) 0 _) (hR.set_ 0 (.int .i64 v1)) (by decide) 1 _, by omega, by omega, by omega, gr_set (gr_set hgr (by simp) _) (by simp) _, (hrd7.set_ (by simp; omega) _).set_ (by simp; omega) _⟩

  · have e0 : (v3 == 0) = false := by simpa using h0
    clear h0
    obtain ⟨k, rfl⟩ : ∃ k : Nat, v2 = (k : Int) := ⟨v2.toNat, by omega⟩
    have hk : k ≤ 6 := by have := b2 (by omega); omega
    go_wp2_with fail
    go_loopw [4, 6] (fun nv iv wr => ∃ (i c' : Nat) (nn : Int) (A' : Option Addr) (out : List Int), i ≤ k ∧ iv = .int .i64 (i : Int) ∧ nv = .int .i64 nn ∧ 0 ≤ nn ∧ nn ≤ 1000 + 3 * i ∧ wr.ownsRow w.heap.size 3 1 (.slice A' i c') i (out.map (Value.int .i64)) ∧ Blk wr g 25 #[.int .i64 v1, .slice A' i c'] ∧ Blk wr w.heap.size 25 #[.int .i64 0, .slice none 0 0] ∧ w.grownBy wr (some R) ∧ Rd wr R (q + 8 - i)) (fun _ iv _ => k - (intOf iv).toNat)
    case atStart => exact ⟨0, 0, v1 + 1, A0, [], Nat.zero_le _, rfl, rfl, by omega, by have := b1 (by omega); omega, ho3, kB3, kr3, hG3, hr3⟩
    case round =>
      obtain ⟨i, c', nn, A', out, hi, rfl, rfl, hn0, hn1, hown, hB, hR, hgr, hrd⟩ := hrel
      have cB := hB.cell
      have fB := hB.frozen
      have cR := hR.cell
      have fR := hR.frozen
      have hzr := hgr.size
      by_cases hlt : i < k
      · have hrd : Rd wr R (q + 7 - i + 1) := by rw [show q + 7 - i + 1 = q + 8 - i by omega]; exact hrd
        go_wp2_with fail
        refine (pick_c R (q + 7 - i) _ _ (by repeat' first | assumption | refine Rd.al ?_ _ | refine Rd.dr ?_ | (refine Rd.set_ ?_ (by simp; omega) _))).mono ?_; rintro e w4 ⟨v4, rfl, ⟨a4, b4, _⟩, hg4, hr4⟩; obtain ⟨hc4, hf4⟩ := pcell hg4; have hl4 := hr4.lt; have hn4 := Nat.ne_of_gt hl4
        have hB := hB.gr hg4 (by simp; omega)
        have hR := hR.gr hg4 (by simp; omega)
        have hown := own_gr hown hg4 hRw
        have hgr := gr_nx hgr hg4
        have hzr := hgr.size
        clear hc4 hf4 cB fB cR fR
        have cB := hB.cell
        have fB := hB.frozen
        have b4 := b4 (by omega)
        have hwd : IntKind.i64.wrap (v4 / 2) = v4 / 2 := by rw [IntKind.wrap_i64]; omega
        have hwn : IntKind.i64.wrap (nn + 1) = nn + 1 := by rw [IntKind.wrap_i64]; omega
        have hwn2 : IntKind.i64.wrap (nn + 1 + v4 / 2) = nn + 1 + v4 / 2 := by rw [IntKind.wrap_i64]; omega
        go_wp2_with (at_builtin; refine wpList_append_sl (enc := encI) rfl _ _ 23 rfl w.heap.size 3 i0 (.int .i64 0) 1 8 Try.underlying23 hi0 hz0 hz1 hz2 rfl (by decide) (.slice A' i c') i (out.map (Value.int .i64)) rfl (hown.alloc _) (some ⟨w4.heap.size, 0, none⟩) 1 1 [nn + 1 + v4 / 2] rfl (fun _ => rfl) (Sl.one (Blk.new _ _ _)) one_I (by unfold maxLen; omega) (by omega) (by simp; omega) ?_; intro v9 w9 ho9 hg9 hl9; obtain ⟨A9, c9, rfl⟩ := own_form ho9; rw [flat_encI, ← List.map_append] at ho9; have hB9 := app_blk hB hg9 (fun e => own_ne_blk hown hB (by decide) e.symm); have hR9 := app_blk hR hg9 (fun e => own_ne_blk hown hR (by decide) e.symm); have cB9 := hB9.cell; have fB9 := hB9.frozen; have cR9 := hR9.cell; have fR9 := hR9.frozen)
        go_roundw
        case rel => exact ⟨i + 1, c9, nn + 1 + v4 / 2, A9, out ++ [nn + 1 + v4 / 2], by omega, by go_num, rfl, by omega, by omega, own_cell ho9 hB9 (by decide) 1 _, by simpa using hB9.set_ 1 (.slice A9 (i + 1) c9), hR9.far (by simp; omega) _, gr_set (app_gr hgr hg9 (fun k hk => (hown.lt k hk).1)) (by simp; omega) _, (app_rd (by rw [show q + 8 - (i + 1) = q + 7 - i by omega]; exact hr4) hg9 (fun k hk => by have := (hown.lt k hk).1; omega)).set_ (by simp; omega) _⟩
        case measure => simp [intOf]; omega
      · have hik : i ≤ 6 := by omega
        have hv1 : v1 < 6 := b1 (by omega)
        have hrd : Rd wr R (q + 1 + 1) := hrd.less (by omega)
        go_wp2_with fail
        refine (pick_c R (q + 1) _ _ (by repeat' first | assumption | refine Rd.al ?_ _ | refine Rd.dr ?_ | (refine Rd.set_ ?_ (by simp; omega) _))).mono ?_; rintro e w5 ⟨v5, rfl, ⟨a5, b5, _⟩, hg5, hr5⟩; obtain ⟨hc5, hf5⟩ := pcell hg5; have hl5 := hr5.lt; have hn5 := Nat.ne_of_gt hl5
        have hB := hB.gr hg5 (by simp; omega)
        have hR := hR.gr hg5 (by simp; omega)
        have hown := own_gr hown hg5 hRw
        have hgr := gr_nx hgr hg5
        have hzr := hgr.size
        clear hc5 hf5 cB fB cR fR
        have cB := hB.cell
        have fB := hB.frozen
        have cR := hR.cell
        have fR := hR.frozen
        by_cases h50 : v5 = 0
        · have e50 : (v5 == 0) = true := by simpa using h50
          clear h50
          go_wp2_with fail
          refine (pick_c R (q) _ _ (by repeat' first | assumption | refine Rd.al ?_ _ | refine Rd.dr ?_ | (refine Rd.set_ ?_ (by simp; omega) _))).mono ?_; rintro e w6 ⟨v6, rfl, ⟨a6, b6, _⟩, hg6, hr6⟩; obtain ⟨hc6, hf6⟩ := pcell hg6; have hl6 := hr6.lt; have hn6 := Nat.ne_of_gt hl6
          have kl := (Blk.new w5 3 #[.int .i64 (-1), .int .i64 999]).gr hg6 (by simp; omega)
          obtain ⟨z, hlit, hz⟩ := lit2 (-1) 999 v6 a6 (b6 (by omega))
          have hx := (kl.cell v6.toNat).trans hlit
          have hB := (hB.al (.cells #[.int .i64 (-1), .int .i64 999] 3)).gr hg6 (by simp; omega)
          have hR := (hR.al (.cells #[.int .i64 (-1), .int .i64 999] 3)).gr hg6 (by simp; omega)
          have hown := own_gr (hown.alloc (.cells #[.int .i64 (-1), .int .i64 999] 3)) hg6 hRw
          have hgr := gr_nx (gr_al hgr (.cells #[.int .i64 (-1), .int .i64 999] 3)) hg6
          clear hc6 hf6 cB fB cR fR hlit
          have cB := hB.cell
          have fB := hB.frozen
          have cR := hR.cell
          have fR := hR.frozen
          go_wp2_with fail
          have hR7 := hR.far (p := ⟨g, 0, none⟩) (by simp; omega) (.int .i64 z)
          have ho7 := own_cell hown hB (by decide) 0 (.int .i64 z)
          have hgr7 := gr_set hgr (a := ⟨g, 0, none⟩) (by simp; omega) (.int .i64 z)
          have hrd7 := hr6.set_ (a := ⟨g, 0, none⟩) (by simp; omega) (.int .i64 z)
          have kz := (hR7.set_ 0 (.int .i64 z)).set_ 1 (.slice A' i c')
          have cz := kz.cell
          refine bodyPost_ret (v := .agg #[.int .i64 z, .slice A' i c']) (by simp [results, Try.results39, go_sem, cz]) rfl ⟨z, A', i, c', out, rfl, own_cell (own_cell ho7 hR7 (by decide) 0 _) (hR7.set_ 0 (.int .i64 z)) (by decide) 1 _, by omega, by omega, by omega, gr_set (gr_set hgr7 (by simp) _) (by simp) _, (hrd7.set_ (by simp; omega) _).set_ (by simp; omega) _⟩
        · have e50 : (v5 == 0) = false := by simpa using h50
          by_cases h51 : v5 = 1
          · have e51 : (v5 == 1) = true := by simpa using h51
            clear h50 h51
            go_wp2_with (at_builtin; refine wpList_append_sl (enc := encI) rfl _ _ 23 rfl w.heap.size 3 i0 (.int .i64 0) 1 8 Try.underlying23 hi0 hz0 hz1 hz2 rfl (by decide) (.slice A' i c') i (out.map (Value.int .i64)) rfl (hown.alloc _) (some ⟨w5.heap.size, 0, none⟩) 1 1 [nn] rfl (fun _ => rfl) (Sl.one (Blk.new _ _ _)) one_I (by unfold maxLen; omega) (by omega) (by simp; omega) ?_; intro v9 w9 ho9 hg9 hl9; obtain ⟨A9, c9, rfl⟩ := own_form ho9; rw [flat_encI, ← List.map_append] at ho9; have hB9 := app_blk hB hg9 (fun e => own_ne_blk hown hB (by decide) e.symm); have hR9 := app_blk hR hg9 (fun e => own_ne_blk hown hR (by decide) e.symm); have cB9 := hB9.cell; have fB9 := hB9.frozen; have cR9 := hR9.cell; have fR9 := hR9.frozen)
            have hR7 := hR9.far (p := ⟨g, 1, none⟩) (by simp; omega) (.slice A9 (i + 1) c9)
            have ho7 := own_cell ho9 hB9 (by decide) 1 (.slice A9 (i + 1) c9)
            have hgr7 := gr_set (app_gr hgr hg9 (fun k hk => (hown.lt k hk).1)) (a := ⟨g, 1, none⟩) (by simp; omega) (.slice A9 (i + 1) c9)
            have hrd7 := (app_rd (hr5.less (q' := q) (by omega)) hg9 (fun k hk => by have := (hown.lt k hk).1; omega)).set_ (a := ⟨g, 1, none⟩) (by simp; omega) (.slice A9 (i + 1) c9)
            have kz := (hR7.set_ 0 (.int .i64 v1)).set_ 1 (.slice A9 (i + 1) c9)
            have cz := kz.cell
            refine bodyPost_ret (v := .agg #[.int .i64 v1, .slice A9 (i + 1) c9]) (by simp [results, Try.results39, go_sem, cz]) rfl ⟨v1, A9, (i + 1), c9, out ++ [nn], rfl, own_cell (own_cell ho7 hR7 (by decide) 0 _) (hR7.set_ 0 (.int .i64 v1)) (by decide) 1 _, by omega, by omega, by omega, gr_set (gr_set hgr7 (by simp) _) (by simp) _, (hrd7.set_ (by simp; omega) _).set_ (by simp; omega) _⟩
          · have e51 : (v5 == 1) = false := by simpa using h51
            clear h50 h51
            go_wp2_with fail
            have hrd7 := hr5.less (q' := q) (by omega)
            have kz := (hR.set_ 0 (.int .i64 v1)).set_ 1 (.slice A' i c')
            have cz := kz.cell
            refine bodyPost_ret (v := .agg #[.int .i64 v1, .slice A' i c']) (by simp [results, Try.results39, go_sem, cz]) rfl ⟨v1, A', i, c', out, rfl, own_cell (own_cell hown hR (by decide) 0 _) (hR.set_ 0 (.int .i64 v1)) (by decide) 1 _, by omega, by omega, by omega, gr_set (gr_set hgr (by simp) _) (by simp) _, (hrd7.set_ (by simp; omega) _).set_ (by simp; omega) _⟩

set_option maxRecDepth 20000 in
set_option maxHeartbeats 1000000 in
theorem drawInboxWaits_c (A : Option Addr) (n c : Nat) (zs : List Int) (w : World) (h : IsRow .u8 w A n c zs) : Calls Try.prog 25 #[.slice A n c] w fun e w' =>
    ∃ (a : Int) (A' : Option Addr) (n' c' : Nat) (l : List Int), e = .returned (.agg #[.int .i64 a, .slice A' n' c']) ∧ SlI w' A' n' c' l ∧ n' ≤ 7 ∧ -1 ≤ a ∧ a ≤ 1000 ∧ Below w.heap.size w w' := by
  go_enter Try.func25, Try.ntmps25
  go_wp2_with fail
  have k0 := Blk.new w 25 #[.int .i64 0, .slice none 0 0]
  refine (l6Open_c A n c zs _ (h.al _)).mono ?_
  rintro e w1 ⟨R, rfl, hrd, hb1, hR⟩
  have hRw := hrd.lt
  have k1 := k0.bel hb1
  have hbw1 : Below w.heap.size w w1 := bel_nx (bel_al (bel_refl w) _) hb1
  have hwR : w.heap.size < R := by have := hR; simp at this; omega
  have hz1 : w.heap.size < w1.heap.size := k1.lt
  clear k0 hb1
  have c1 := k1.cell
  have f1 := k1.frozen
  go_wp2_with fail
  refine (l92Inbox_c R 989 _ hrd).mono ?_
  rintro e w2 ⟨a, A2, n2, c2, l, rfl, ho2, hn2, ha1, ha2, hg2, hr2⟩
  have k2 := k1.gr hg2 (by simp; omega)
  have hb2 := bel_gr hbw1 hg2 (by omega)
  have hz2 := hg2.size
  clear c1 f1 k1 hg2
  have c2' := k2.cell
  have f2' := k2.frozen
  go_wp2_with fail
  have kz := (k2.set_ 0 (.int .i64 a)).set_ 1 (.slice A2 n2 c2)
  have cz := kz.cell
  refine bodyPost_ret (v := .agg #[.int .i64 a, .slice A2 n2 c2]) (by simp [results, Try.results25, go_sem, cz]) rfl ⟨a, A2, n2, c2, l, rfl, SlI.of_own (own_cell (own_cell ho2 k2 (by decide) 0 _) (k2.set_ 0 (.int .i64 a)) (by decide) 1 _), hn2, ha1, by omega, bel_set (bel_set hb2 (by simp) _) (by simp) _⟩

set_option maxRecDepth 20000 in
set_option maxHeartbeats 1000000 in
theorem drawInboxValid_c (A : Option Addr) (n c : Nat) (zs : List Int) (w : World) (h : IsRow .u8 w A n c zs) : Calls Try.prog 16 #[.slice A n c] w fun e w' =>
    ∃ (a : Int) (A' : Option Addr) (n' c' : Nat) (l : List Int), e = .returned (.agg #[.int .i64 a, .slice A' n' c']) ∧ SlI w' A' n' c' l ∧ n' ≤ 7 ∧ -1 ≤ a ∧ a ≤ 1000 ∧ Below w.heap.size w w' := by
  go_enter Try.func16, Try.ntmps16
  go_wp2_with fail
  have k0 := Blk.new w 25 #[.int .i64 0, .slice none 0 0]
  refine (l6Open_c A n c zs _ (h.al _)).mono ?_
  rintro e w1 ⟨R, rfl, hrd, hb1, hR⟩
  have hRw := hrd.lt
  have k1 := k0.bel hb1
  have hbw1 : Below w.heap.size w w1 := bel_nx (bel_al (bel_refl w) _) hb1
  have hwR : w.heap.size < R := by have := hR; simp at this; omega
  have hz1 : w.heap.size < w1.heap.size := k1.lt
  clear k0 hb1
  have c1 := k1.cell
  have f1 := k1.frozen
  go_wp2_with fail
  refine (l92Inbox_c R 989 _ hrd).mono ?_
  rintro e w2 ⟨a, A2, n2, c2, l, rfl, ho2, hn2, ha1, ha2, hg2, hr2⟩
  have k2 := k1.gr hg2 (by simp; omega)
  have hb2 := bel_gr hbw1 hg2 (by omega)
  have hz2 := hg2.size
  clear c1 f1 k1 hg2
  have c2' := k2.cell
  have f2' := k2.frozen
  go_wp2_with fail
  have kb := Blk.new w2 25 #[.int .i64 a, .slice A2 n2 c2]
  have k3 := k2.al (.cells #[.int .i64 a, .slice A2 n2 c2] 25)
  have ho3 := ho2.alloc (.cells #[.int .i64 a, .slice A2 n2 c2] 25)
  have hb3 := bel_al hb2 (.cells #[.int .i64 a, .slice A2 n2 c2] 25)
  clear c2' f2' k2 ho2 hb2
  refine (pick_c R (988) _ _ (by repeat' first | assumption | refine Rd.al ?_ _ | refine Rd.dr ?_ | (refine Rd.set_ ?_ (by simp; omega) _))).mono ?_; rintro e w1 ⟨v1, rfl, ⟨a1, b1, _⟩, hg1, hr1⟩; obtain ⟨hc1, hf1⟩ := pcell hg1; have hl1 := hr1.lt; have hn1 := Nat.ne_of_gt hl1
  have kb := kb.gr hg1 (by simp; omega)
  have k3 := k3.gr hg1 (by simp; omega)
  have ho3 := own_gr ho3 hg1 hRw
  have hb3 := bel_gr hb3 hg1 (by omega)
  clear hc1 hf1
  have cb := kb.cell
  have fb := kb.frozen
  have c3 := k3.cell
  have f3 := k3.frozen
  by_cases h0 : v1 = 0
  · have e0 : (v1 == 0) = true := by simpa using h0
    have hwa : IntKind.i64.wrap (a + 1) = a + 1 := by rw [IntKind.wrap_i64]; omega
    clear h0
    go_wp2_with fail
    have k4 := k3.far (p := ⟨w2.heap.size, 0, none⟩) (by simp; omega) (.int .i64 (a + 1))
    have ho4 := own_cell ho3 kb (by decide) 0 (.int .i64 (a + 1))
    have hb4 := bel_set hb3 (p := ⟨w2.heap.size, 0, none⟩) (by simp; omega) (.int .i64 (a + 1))
    have kz := (k4.set_ 0 (.int .i64 (a + 1))).set_ 1 (.slice A2 n2 c2)
    have cz := kz.cell
    refine bodyPost_ret (v := .agg #[.int .i64 (a + 1), .slice A2 n2 c2]) (by simp [results, Try.results16, go_sem, cz]) rfl ⟨a + 1, A2, n2, c2, l, rfl, SlI.of_own (own_cell (own_cell ho4 k4 (by decide) 0 _) (k4.set_ 0 (.int .i64 (a + 1))) (by decide) 1 _), hn2, by omega, by omega, bel_set (bel_set hb4 (by simp) _) (by simp) _⟩
  · have e0 : (v1 == 0) = false := by simpa using h0
    clear h0
    go_wp2_with fail
    have kz := (k3.set_ 0 (.int .i64 a)).set_ 1 (.slice A2 n2 c2)
    have cz := kz.cell
    refine bodyPost_ret (v := .agg #[.int .i64 a, .slice A2 n2 c2]) (by simp [results, Try.results16, go_sem, cz]) rfl ⟨a, A2, n2, c2, l, rfl, SlI.of_own (own_cell (own_cell ho3 k3 (by decide) 0 _) (k3.set_ 0 (.int .i64 a)) (by decide) 1 _), hn2, ha1, by omega, bel_set (bel_set hb3 (by simp) _) (by simp) _⟩

theorem Rd.set_blk {w : World} {R q p : Nat} {t : TypeId} {cs : Array Value} (h : Rd w R q) (hb : Blk w p t cs) (hp : p ≠ R) (hc : ∀ (i : Nat) (z : Int), cs[i]? ≠ some (.int .u8 z)) (o : Nat) (u : Value) : Rd (w.setCell ⟨p, o, none⟩ u) R q := by
  unfold Rd RdAt at h ⊢
  obtain ⟨k, hk, A, n, c, hh, h1, h2, h3, h4⟩ := h
  refine ⟨k, hk, A, n, c, (heap_setCell_other w ⟨p, o, none⟩ R u (fun e => hp e.symm)).trans hh, h1, h2, h3, fun hn => ?_⟩
  obtain ⟨b, off, hA, hbR, hz⟩ := h4 hn
  refine ⟨b, off, hA, hbR, fun i hi => ?_⟩
  obtain ⟨z, hcz, hz1⟩ := hz i hi
  refine ⟨z, (World.cell?_of_block (w := w) (heap_setCell_other w ⟨p, o, none⟩ b u (fun e => ?_))).trans hcz, hz1⟩
  have e : b = p := e
  subst e
  rw [hb.cell] at hcz
  exact hc _ _ hcz
theorem no_u8 (k : Int) (A : Option Addr) (n c i : Nat) (z : Int) : (#[.int .i64 k, .slice A n c] : Array Value)[i]? ≠ some (.int .u8 z) := by
  rcases i with _ | _ | i <;> simp

set_option maxRecDepth 20000 in
set_option maxHeartbeats 1000000 in
theorem drawInboxHas_c (A : Option Addr) (n c : Nat) (zs : List Int) (w : World) (h : IsRow .u8 w A n c zs) : Calls Try.prog 22 #[.slice A n c] w fun e w' =>
    ∃ (a : Int) (A' : Option Addr) (n' c' : Nat) (l : List Int) (x : Int), e = .returned (.tuple #[.agg #[.int .i64 a, .slice A' n' c'], .int .i64 x]) ∧ SlI w' A' n' c' l ∧ n' ≤ 7 ∧ -1 ≤ a ∧ a ≤ 1000 ∧ -3 ≤ x ∧ x ≤ 1020 ∧ Below w.heap.size w w' := by
  go_enter Try.func22, Try.ntmps22
  go_wp2_with fail
  have k0 := Blk.new w 25 #[.int .i64 0, .slice none 0 0]
  refine (l6Open_c A n c zs _ (h.al _)).mono ?_
  rintro e w1 ⟨R, rfl, hrd, hb1, hR⟩
  have hRw := hrd.lt
  have k1 := k0.bel hb1
  have hbw1 : Below w.heap.size w w1 := bel_nx (bel_al (bel_refl w) _) hb1
  have hwR : w.heap.size < R := by have := hR; simp at this; omega
  have hz1 : w.heap.size < w1.heap.size := k1.lt
  clear k0 hb1
  have c1 := k1.cell
  have f1 := k1.frozen
  go_wp2_with fail
  refine (l92Inbox_c R 989 _ hrd).mono ?_
  rintro e w2 ⟨a, A2, n2, c2, l, rfl, ho2, hn2, ha1, ha2, hg2, hr2⟩
  have k2 := k1.gr hg2 (by simp; omega)
  have hb2 := bel_gr hbw1 hg2 (by omega)
  have hz2 := hg2.size
  clear c1 f1 k1 hg2
  have c2' := k2.cell
  have f2' := k2.frozen
  go_wp2_with fail
  have kb := Blk.new w2 25 #[.int .i64 a, .slice A2 n2 c2]
  have k3 := k2.al (.cells #[.int .i64 a, .slice A2 n2 c2] 25)
  have ho3 := ho2.alloc (.cells #[.int .i64 a, .slice A2 n2 c2] 25)
  have hb3 := bel_al hb2 (.cells #[.int .i64 a, .slice A2 n2 c2] 25)
  clear c2' f2' k2 ho2 hb2
  have cb := kb.cell
  have fb := kb.frozen
  have c3 := k3.cell
  have f3 := k3.frozen
  have hr3 := hr2.al (.cells #[.int .i64 a, .slice A2 n2 c2] 25)
  have hrdS := (hr3.set_blk k3 (by omega) (no_u8 _ _ _ _) 0 (.int .i64 a)).set_blk (k3.set_ 0 (.int .i64 a)) (by omega) (by simpa using no_u8 _ _ _ _) 1 (.slice A2 n2 c2)
  go_region_with (go_at_call 40; refine (pick_c R 988 _ _ (by first | exact hr3 | exact hr3.dr | exact hrdS | exact hrdS.dr)).mono ?_; rintro e w5 ⟨v5, rfl, ⟨a5, b5, _⟩, hg5, hr5⟩; have b5 := b5 (by omega); have kb5 := Blk.gr (by first | exact kb | exact (kb.far (p := ⟨w.heap.size, 0, none⟩) (by simp; omega) _).far (p := ⟨w.heap.size, 1, none⟩) (by simp; omega) _) hg5 (by simp; omega); have ho5 := own_gr (by first | exact ho3 | exact own_cell (own_cell ho3 k3 (by decide) 0 _) (k3.set_ 0 _) (by decide) 1 _) hg5 hRw; have k5 := Blk.gr (by first | exact k3 | exact (k3.set_ 0 (.int .i64 a)).set_ 1 (.slice A2 n2 c2)) hg5 (by simp; omega); have cb5 := kb5.cell; have c5 := k5.cell; have f5 := k5.frozen; have hwa : IntKind.i64.wrap (a + v5) = a + v5 := (by rw [IntKind.wrap_i64]; omega); have hwb : IntKind.i64.wrap (a + v5 - 2) = a + v5 - 2 := (by rw [IntKind.wrap_i64]; omega))
  all_goals
    have hb5 : Below w.heap.size w w5 := by
      first
        | exact bel_gr hb3 hg5 (by omega)
        | exact bel_gr (bel_dr hb3) hg5 (by omega)
        | exact bel_gr (bel_set (bel_set hb3 (p := ⟨w.heap.size, 0, none⟩) (by simp) (.int .i64 a)) (p := ⟨w.heap.size, 1, none⟩) (by simp) (.slice A2 n2 c2)) hg5 (by omega)
        | exact bel_gr (bel_dr (bel_set (bel_set hb3 (p := ⟨w.heap.size, 0, none⟩) (by simp) (.int .i64 a)) (p := ⟨w.heap.size, 1, none⟩) (by simp) (.slice A2 n2 c2))) hg5 (by omega)
        | exact bel_gr (bel_set (bel_set (bel_dr hb3) (p := ⟨w.heap.size, 0, none⟩) (by simp) (.int .i64 a)) (p := ⟨w.heap.size, 1, none⟩) (by simp) (.slice A2 n2 c2)) hg5 (by omega)
    go_wp2_with fail
    first
      | (have kz := (k5.set_ 0 (.int .i64 a)).set_ 1 (.slice A2 n2 c2)
         have cz := kz.cell
         refine bodyPost_ret (v := .tuple #[.agg #[.int .i64 a, .slice A2 n2 c2], .int .i64 (a + v5 - 2)]) (by simp [results, Try.results22, go_sem, cz]) rfl ⟨a, A2, n2, c2, l, a + v5 - 2, rfl, SlI.of_own (own_cell (own_cell ho5 k5 (by decide) 0 _) (k5.set_ 0 (.int .i64 a)) (by decide) 1 _), hn2, ha1, by omega, by omega, by omega, bel_set (bel_set hb5 (by simp) _) (by simp) _⟩)
      | (have cz : ∀ i, w5.cell? ⟨w.heap.size, i, none⟩ = (#[.int .i64 a, .slice A2 n2 c2] : Array Value)[i]? := fun i => by simpa using k5.cell i
         refine bodyPost_ret (v := .tuple #[.agg #[.int .i64 a, .slice A2 n2 c2], .int .i64 (a + v5 - 2)]) (by simp [results, Try.results22, go_sem, cz]) rfl ⟨a, A2, n2, c2, l, a + v5 - 2, rfl, SlI.of_own ho5, hn2, ha1, by omega, by omega, by omega, hb5⟩)


set_option maxRecDepth 20000 in
set_option maxHeartbeats 1000000 in
theorem drawInboxTake_c (A : Option Addr) (n c : Nat) (zs : List Int) (w : World) (h : IsRow .u8 w A n c zs) : Calls Try.prog 34 #[.slice A n c] w fun e w' =>
    ∃ (a : Int) (A' : Option Addr) (n' c' : Nat) (l : List Int) (x : Int), e = .returned (.tuple #[.agg #[.int .i64 a, .slice A' n' c'], .int .i64 x]) ∧ SlI w' A' n' c' l ∧ n' ≤ 7 ∧ -1 ≤ a ∧ a ≤ 1000 ∧ -3 ≤ x ∧ x ≤ 1020 ∧ Below w.heap.size w w' := by
  go_enter Try.func34, Try.ntmps34
  go_wp2_with fail
  have k0 := Blk.new w 25 #[.int .i64 0, .slice none 0 0]
  refine (l6Open_c A n c zs _ (h.al _)).mono ?_
  rintro e w1 ⟨R, rfl, hrd, hb1, hR⟩
  have hRw := hrd.lt
  have k1 := k0.bel hb1
  have hbw1 : Below w.heap.size w w1 := bel_nx (bel_al (bel_refl w) _) hb1
  have hwR : w.heap.size < R := by have := hR; simp at this; omega
  have hz1 : w.heap.size < w1.heap.size := k1.lt
  clear k0 hb1
  have c1 := k1.cell
  have f1 := k1.frozen
  go_wp2_with fail
  refine (l92Inbox_c R 989 _ hrd).mono ?_
  rintro e w2 ⟨a, A2, n2, c2, l, rfl, ho2, hn2, ha1, ha2, hg2, hr2⟩
  have k2 := k1.gr hg2 (by simp; omega)
  have hb2 := bel_gr hbw1 hg2 (by omega)
  have hz2 := hg2.size
  clear c1 f1 k1 hg2
  have c2' := k2.cell
  have f2' := k2.frozen
  go_wp2_with fail
  have kb := Blk.new w2 25 #[.int .i64 a, .slice A2 n2 c2]
  have k3 := k2.al (.cells #[.int .i64 a, .slice A2 n2 c2] 25)
  have ho3 := ho2.alloc (.cells #[.int .i64 a, .slice A2 n2 c2] 25)
  have hb3 := bel_al hb2 (.cells #[.int .i64 a, .slice A2 n2 c2] 25)
  clear c2' f2' k2 ho2 hb2
  refine (pick_c R (988) _ _ (by repeat' first | assumption | refine Rd.al ?_ _ | refine Rd.dr ?_ | (refine Rd.set_ ?_ (by simp; omega) _))).mono ?_; rintro e w1 ⟨v1, rfl, ⟨a1, b1, _⟩, hg1, hr1⟩; obtain ⟨hc1, hf1⟩ := pcell hg1; have hl1 := hr1.lt; have hn1 := Nat.ne_of_gt hl1
  have kb := kb.gr hg1 (by simp; omega)
  have k3 := k3.gr hg1 (by simp; omega)
  have ho3 := own_gr ho3 hg1 hRw
  have hb3 := bel_gr hb3 hg1 (by omega)
  clear hc1 hf1
  have cb := kb.cell
  have fb := kb.frozen
  have c3 := k3.cell
  have f3 := k3.frozen
  by_cases h0 : v1 = 0
  · have e0 : (v1 == 0) = true := by simpa using h0
    clear h0
    have hwa : IntKind.i64.wrap (a + 1) = a + 1 := by rw [IntKind.wrap_i64]; omega
    go_wp2_with fail
    go_region
    all_goals
      go_wp2_with fail
      have kz := (k3.set_ 0 (.int .i64 a)).set_ 1 (.slice A2 n2 c2)
      have cz := kz.cell
      refine bodyPost_ret (v := .tuple #[.agg #[.int .i64 a, .slice A2 n2 c2], .int .i64 (a + 1)]) (by simp [results, Try.results34, go_sem, cz]) rfl ⟨a, A2, n2, c2, l, a + 1, rfl, SlI.of_own (own_cell (own_cell ho3 k3 (by decide) 0 _) (k3.set_ 0 (.int .i64 a)) (by decide) 1 _), hn2, ha1, by omega, by omega, by omega, ?_⟩
      first
        | exact bel_set (bel_set hb3 (by simp) _) (by simp) _
        | exact bel_dr (bel_set (bel_set hb3 (by simp) _) (by simp) _)
  · have e0 : (v1 == 0) = false := by simpa using h0
    clear h0
    have hr3 := hr1
    have hrdS := (hr3.set_blk k3 (by omega) (no_u8 _ _ _ _) 0 (.int .i64 a)).set_blk (k3.set_ 0 (.int .i64 a)) (by omega) (by simpa using no_u8 _ _ _ _) 1 (.slice A2 n2 c2)
    go_wp2_with fail
    go_region_with (go_at_call 40; refine (pick_c R 987 _ _ (by first | exact hr3 | exact hr3.dr | exact hrdS | exact hrdS.dr)).mono ?_; rintro e w5 ⟨v5, rfl, ⟨a5, b5, _⟩, hg5, hr5⟩; have b5 := b5 (by omega); have kb5 := Blk.gr (by first | exact kb | exact (kb.far (p := ⟨w.heap.size, 0, none⟩) (by simp; omega) _).far (p := ⟨w.heap.size, 1, none⟩) (by simp; omega) _) hg5 (by simp; omega); have ho5 := own_gr (by first | exact ho3 | exact own_cell (own_cell ho3 k3 (by decide) 0 _) (k3.set_ 0 _) (by decide) 1 _) hg5 hRw; have k5 := Blk.gr (by first | exact k3 | exact (k3.set_ 0 (.int .i64 a)).set_ 1 (.slice A2 n2 c2)) hg5 (by simp; omega); have cb5 := kb5.cell; have c5 := k5.cell; have f5 := k5.frozen; have hwa : IntKind.i64.wrap (a + v5) = a + v5 := (by rw [IntKind.wrap_i64]; omega); have hwb : IntKind.i64.wrap (a + v5 - 2) = a + v5 - 2 := (by rw [IntKind.wrap_i64]; omega))
    all_goals
      have hb5 : Below w.heap.size w w5 := by
        first
          | exact bel_gr hb3 hg5 (by omega)
          | exact bel_gr (bel_dr hb3) hg5 (by omega)
          | exact bel_gr (bel_set (bel_set hb3 (p := ⟨w.heap.size, 0, none⟩) (by simp) (.int .i64 a)) (p := ⟨w.heap.size, 1, none⟩) (by simp) (.slice A2 n2 c2)) hg5 (by omega)
          | exact bel_gr (bel_dr (bel_set (bel_set hb3 (p := ⟨w.heap.size, 0, none⟩) (by simp) (.int .i64 a)) (p := ⟨w.heap.size, 1, none⟩) (by simp) (.slice A2 n2 c2))) hg5 (by omega)
          | exact bel_gr (bel_set (bel_set (bel_dr hb3) (p := ⟨w.heap.size, 0, none⟩) (by simp) (.int .i64 a)) (p := ⟨w.heap.size, 1, none⟩) (by simp) (.slice A2 n2 c2)) hg5 (by omega)
      go_wp2_with fail
      first
        | (have kz := (k5.set_ 0 (.int .i64 a)).set_ 1 (.slice A2 n2 c2)
           have cz := kz.cell
           refine bodyPost_ret (v := .tuple #[.agg #[.int .i64 a, .slice A2 n2 c2], .int .i64 (a + v5 - 2)]) (by simp [results, Try.results34, go_sem, cz]) rfl ⟨a, A2, n2, c2, l, a + v5 - 2, rfl, SlI.of_own (own_cell (own_cell ho5 k5 (by decide) 0 _) (k5.set_ 0 (.int .i64 a)) (by decide) 1 _), hn2, ha1, by omega, by omega, by omega, bel_set (bel_set hb5 (by simp) _) (by simp) _⟩)
        | (have cz : ∀ i, w5.cell? ⟨w.heap.size, i, none⟩ = (#[.int .i64 a, .slice A2 n2 c2] : Array Value)[i]? := fun i => by simpa using k5.cell i
           refine bodyPost_ret (v := .tuple #[.agg #[.int .i64 a, .slice A2 n2 c2], .int .i64 (a + v5 - 2)]) (by simp [results, Try.results34, go_sem, cz]) rfl ⟨a, A2, n2, c2, l, a + v5 - 2, rfl, SlI.of_own ho5, hn2, ha1, by omega, by omega, by omega, hb5⟩)

end Go.Proofs.Ytdcojlbekpcejaa
