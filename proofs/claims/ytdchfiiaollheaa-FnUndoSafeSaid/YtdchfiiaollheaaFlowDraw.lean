/- The draw of a flow. -/
import Derived.Test.YtdchfiiaollheaaFlowOwn
import Derived.Test.YtdchfiiaollheaaRunDraw1
import Derived.RegionTactic
import Derived.Deep.RegionWith
import Derived.Deep.Cut
import Derived.Deep.CutRange
import Derived.Deep.CutBlock
import Derived.Deep.RegionHeld3
import Derived.Deep.DeepCutAuto
import Derived.Deep.Light
namespace Go.Proofs.Ytdchfiiaollheaa
open Go.RowKit

def stepNames : Array Value := #[.string ⟨#[97]⟩, .string ⟨#[98]⟩, .string ⟨#[99]⟩, .string ⟨#[100]⟩, .string ⟨#[101]⟩, .string ⟨#[102]⟩]
theorem stepNames_at {k : Nat} (h : k < 6) : ∃ s : ByteArray, stepNames[k]? = some (.string s) ∧ s.size ≤ 5 := by
  rcases (show k = 0 ∨ k = 1 ∨ k = 2 ∨ k = 3 ∨ k = 4 ∨ k = 5 by omega) with rfl | rfl | rfl | rfl | rfl | rfl
  all_goals exact ⟨_, rfl, by decide⟩
theorem steps_new (w : World) (B : Nat) (hB : B ≤ w.heap.size) : OwnQ (w.alloc (.cells #[] 30)) B (some ⟨w.heap.size, 0, none⟩) 0 0 [] :=
  ⟨[], ownsRow_base (World.ownsRow_lit (size := 3) (e := 30) w #[] 0 (Nat.le_refl _) (by unfold maxLen; omega) rfl) hB, rfl, rfl, fun i r s h => by simp at h⟩

theorem cell_gr {W w' : World} {p : Addr} {v : Value} {R : Nat} (hg : W.grownBy w' (some R)) (h : W.cell? p = some v) (hne : p.block ≠ R) : w'.cell? p = some v :=
  ((pcell hg).1 p (by rw [h]; rfl) hne).trans h
theorem cell_dr {w : World} {p : Addr} {v : Value} (h : w.cell? p = some v) : w.drew.cell? p = some v := h
theorem cell_st {w : World} {p a : Addr} {v : Value} (h : w.cell? p = some v) (hne : p.block ≠ a.block) (u : Value) : (w.setCell a u).cell? p = some v :=
  (World.cell?_of_block (heap_setCell_other w a p.block u (fun e => hne e))).trans h
theorem one_P (a : RawP) (u : Value) (hu : u ∈ encP a) : u.oneCell' = true := by
  simp [encP] at hu; rcases hu with rfl | rfl | rfl <;> rfl
theorem own_dr' {w : World} {B : Nat} {e : TypeId} {k n : Nat} {v : Value} {xs : List Value} {o : Obj} (h : w.ownsRow B e k v n xs) : (w.alloc o).drew.ownsRow B e k v n xs := own_dr (h.alloc o)
theorem sl_one_dr (w : World) (nm : ByteArray) : SlS (w.alloc (.cells #[.string nm] 9)).drew (some ⟨w.heap.size, 0, none⟩) 1 1 [nm] := (Sl.one (enc := encS) (Blk.new w 9 #[.string nm])).dr
theorem app_dr {w w' : World} {g : Nat} {t : TypeId} {cs : Array Value} {r : Option Nat} {o : Obj} (h : Blk w g t cs) (hg : (w.alloc o).drew.grownBy w' r) (hne : some g ≠ r) : Blk w' g t cs := (h.al o).dr.gr hg hne
theorem app_cell {w w' : World} {p : Addr} {v : Value} {r : Option Nat} {o : Obj} (h : w.cell? p = some v) (hg : (w.alloc o).drew.grownBy w' r) (hne : some p.block ≠ r) : w'.cell? p = some v :=
  (World.cell?_of_block (hg.block p.block (by have := cell_some_lt (w := w) (p := p) (by rw [h]; rfl); simp; omega) hne)).trans (cell_al h o)
theorem first_gr' {w w' : World} {row : Option Nat} {o : Obj} (hb : (w.alloc o).drew.grownBy w' row) : (w.alloc o).grownBy w' row := first_gr hb
theorem cell_so {w : World} {g i j : Nat} {v : Value} (h : w.cell? ⟨g, j, none⟩ = some v) (hne : i ≠ j) (u : Value) : (w.setCell ⟨g, i, none⟩ u).cell? ⟨g, j, none⟩ = some v :=
  (World.cell?_setCell_other _ _ _ _ (by intro e; injection e; omega)).trans h
theorem text1_own (w : World) (nm : ByteArray) {B : Nat} (hB : B ≤ w.heap.size) : (w.alloc (.cells #[.string nm] 9)).ownsRow B 9 1 (.slice (some ⟨w.heap.size, 0, none⟩) 1 1) 1 ([nm].map Value.string) :=
  ownsRow_base (World.ownsRow_lit w #[.string nm] 1 (Nat.le_refl _) (by unfold maxLen; omega) rfl) hB
theorem blk_new_gr {W w' : World} {R g : Nat} {t : TypeId} {cs : Array Value} (hg : (W.alloc (.cells cs t)).grownBy w' (some R)) (h : g = W.heap.size) (hne : g ≠ R) : Blk w' g t cs := by
  subst h; exact (Blk.new W t cs).gr hg (fun e => hne (Option.some.inj e))
theorem blk_new_al_gr {W w' : World} {R g : Nat} {t : TypeId} {cs : Array Value} {o : Obj} (hg : ((W.alloc (.cells cs t)).alloc o).grownBy w' (some R)) (h : g = W.heap.size) (hne : g ≠ R) : Blk w' g t cs := by
  subst h; exact ((Blk.new W t cs).al o).gr hg (fun e => hne (Option.some.inj e))
theorem blk3 {w : World} {g : Nat} {t : TypeId} {a b c x y z : Value} (h : Blk w g t #[a, b, c]) : Blk (((w.setCell ⟨g, 0, none⟩ x).setCell ⟨g, 1, none⟩ y).setCell ⟨g, 2, none⟩ z) g t #[x, y, z] :=
  ((h.set_ 0 x).set_ 1 y).set_ 2 z
theorem blk_new_at {w : World} {g : Nat} {t : TypeId} {cs : Array Value} (h : g = w.heap.size) : Blk (w.alloc (.cells cs t)) g t cs := by subst h; exact Blk.new _ _ _
theorem own3 {w : World} {B : Nat} {e : TypeId} {k n : Nat} {v x y z : Value} {xs : List Value} {g : Nat} (h : w.ownsRow B e k v n xs) (hne : v.ownBlock ≠ some g) : (((w.setCell ⟨g, 0, none⟩ x).setCell ⟨g, 1, none⟩ y).setCell ⟨g, 2, none⟩ z).ownsRow B e k v n xs :=
  h.kept (gr_at (gr_at (gr_cell w g 0 x) 1 y) 2 z) (.inr hne)
theorem texts_at {w : World} {B g : Nat} (hg : g = w.heap.size) (hB : B ≤ w.heap.size) : (w.alloc (.cells #[] 9)).ownsRow B 9 1 (.slice (some ⟨g, 0, none⟩) 0 0) 0 (([] : List ByteArray).map Value.string) := by
  subst hg; exact ownsRow_base (texts_new w) hB
theorem lit3i (a b c v : Int) (h0 : 0 ≤ v) (h1 : v < 3) : ∃ z : Int, (∀ h, [Value.int .i64 a, .int .i64 b, .int .i64 c][v.toNat]'h = .int .i64 z) := by
  rcases (show v = 0 ∨ v = 1 ∨ v = 2 by omega) with rfl | rfl | rfl
  · exact ⟨a, fun _ => rfl⟩
  · exact ⟨b, fun _ => rfl⟩
  · exact ⟨c, fun _ => rfl⟩
abbrev stepZ : Array Value := #[.string ⟨#[]⟩, .slice none 0 0, .bool false]

set_option maxRecDepth 20000 in
set_option maxHeartbeats 2000000 in
theorem l91Flow_c (R q : Nat) (w : World) (h : Rd w R (q + 49)) : Calls Try.prog 50 #[.pointer (some ⟨R, 0, none⟩)] w fun e w' =>
    ∃ (v : Int) (A : Option Addr) (n c : Nat) (l : List Stp), e = .returned (.agg #[.int .i64 v, .slice A n c]) ∧ OwnQ w' w.heap.size A n c l ∧ 1 ≤ n ∧ n ≤ 6 ∧ Sm5 l ∧ w.grownBy w' (some R) ∧ Rd w' R q := by
  have hRw := h.lt
  obtain ⟨i0, hi0, hz0, hz1, hz2⟩ := info_parts step_info
  obtain ⟨i1, hi1, hy0, hy1, hy2⟩ := info_parts str_info
  have kz := Blk.new w 25 #[.int .i64 0, .slice none 0 0]
  have h0 := h.al (.cells #[.int .i64 0, .slice none 0 0] 25)
  have hg0 := gr_al (gr_refl w (some R)) (.cells #[.int .i64 0, .slice none 0 0] 25)
  go_enter Try.func50, Try.ntmps50
  go_wp2_with fail
  refine (pick_c R (q + 48) _ _ h0).mono ?_
  rintro e w1 ⟨v1, rfl, ⟨a1, b1, _⟩, hg1, hr1⟩
  have b1 := b1 (by omega)
  have kz := kz.gr hg1 (by simp; omega)
  have hwz := kz.lt
  have hg0 := gr_nx hg0 hg1
  clear h0 hg1
  have hw1 : IntKind.i64.wrap (1 + v1) = 1 + v1 := by rw [IntKind.wrap_i64]; omega
  go_wp2_with fail
  have ho := ((steps_new w1 w.heap.size (by have := hg0.size; omega)).al (.cells #[.int .i64 (1 + v1), .slice (some ⟨w1.heap.size, 0, none⟩) 0 0] 25)).al (.cells stepNames 9)
  have kf := (Blk.new (w1.alloc (.cells #[] 30)) 25 #[.int .i64 (1 + v1), .slice (some ⟨w1.heap.size, 0, none⟩) 0 0]).al (.cells stepNames 9)
  rw [show (w1.alloc (.cells #[] 30)).heap.size = w1.heap.size + 1 by simp] at kf
  have kn := Blk.new ((w1.alloc (.cells #[] 30)).alloc (.cells #[.int .i64 (1 + v1), .slice (some ⟨w1.heap.size, 0, none⟩) 0 0] 25)) 9 stepNames
  rw [show ((w1.alloc (.cells #[] 30)).alloc (.cells #[.int .i64 (1 + v1), .slice (some ⟨w1.heap.size, 0, none⟩) 0 0] 25)).heap.size = w1.heap.size + 2 by simp] at kn
  have kz := ((kz.al (.cells #[] 30)).al (.cells #[.int .i64 (1 + v1), .slice (some ⟨w1.heap.size, 0, none⟩) 0 0] 25)).al (.cells stepNames 9)
  have hr1 := ((hr1.al (.cells #[] 30)).al (.cells #[.int .i64 (1 + v1), .slice (some ⟨w1.heap.size, 0, none⟩) 0 0] 25)).al (.cells stepNames 9)
  have hg0 := gr_al (gr_al (gr_al hg0 (.cells #[] 30)) (.cells #[.int .i64 (1 + v1), .slice (some ⟨w1.heap.size, 0, none⟩) 0 0] 25)) (.cells stepNames 9)
  go_loopw [5] (fun iv wr => ∃ (k n c : Nat) (l : List Stp) (A : Option Addr) (v : Int), k ≤ 6 ∧ iv = .int .i64 (k : Int) ∧ n ≤ k ∧ (0 < k → 0 < n) ∧ Blk wr (w1.heap.size + 1) 25 #[.int .i64 v, .slice A n c] ∧ OwnQ wr w.heap.size A n c l ∧ Sm5 l ∧ Blk wr w.heap.size 25 #[.int .i64 0, .slice none 0 0] ∧ Blk wr (w1.heap.size + 2) 9 stepNames ∧ Rd wr R (q + 2 + 7 * (6 - k)) ∧ w.grownBy wr (some R)) (fun iv _ => 6 - (intOf iv).toNat)
  case atStart => exact ⟨0, 0, 0, [], _, _, by omega, rfl, by omega, by omega, kf, ho, (fun p h => by cases h), kz, kn, hr1.less (by omega), hg0⟩
  case round =>
    obtain ⟨k, n, c, l, A, v, hk, rfl, hnk, hkn, kfL, hoL, h5L, kzL, knL, hrL, hgL⟩ := hrel
    have hzL := kfL.lt
    by_cases hlt : k < 6
    · obtain ⟨f, hf⟩ : ∃ f, q + 2 + 7 * (6 - k) = f + 7 := ⟨q + 2 + 7 * (6 - (k + 1)), by omega⟩
      rw [hf] at hrL
      have HF := Lib.hid hf
      clear hf
      obtain ⟨s, hs, hs5⟩ := stepNames_at hlt
      have HS := Lib.hid hs
      clear hs
      have k0 : (0 : Int) ≤ (k : Int) := by omega
      have k1 : (k : Int) < 6 := by omega
      go_upto_region 6 with fail
      go_cut [26] (fun vv wc => ∃ bb : Bool, vv = .bool bb ∧ Hid (k = 0 → bb = true) ∧ Rd wc R (f + 6) ∧ wr.grownBy wc (some R))
      case first =>
        go_wp2_with fail
        refine (pick_c R (f + 6) _ _ (by repeat' first | assumption | refine Rd.al ?_ _ | refine Rd.dr ?_ | (refine Rd.set_ ?_ (by simp; omega) _))).mono ?_; rintro e w2 ⟨v2, rfl, ⟨a2, b2, _⟩, hg2, hr2⟩; obtain ⟨hc2, hf2⟩ := pcell hg2; have hl2 := hr2.lt; have hn2 := Nat.ne_of_gt hl2
        clear hc2 hf2
        by_cases hc : 0 < v2
        · have e2 : decide (0 < v2) = true := decide_eq_true hc
          clear hc
          go_wp2_with fail
          go_meet
          case rel => exact ⟨true, rfl, Lib.hid (fun _ => rfl), hr2, hg2⟩
        · have e2 : decide (0 < v2) = false := decide_eq_false hc
          clear hc
          rcases Nat.eq_zero_or_pos k with hk0 | hk0
          · subst hk0
            go_wp2_with fail
            go_meet
            case rel => exact ⟨true, rfl, Lib.hid (fun _ => rfl), hr2, hg2⟩
          · have e3 : ((k : Int) == 0) = false := by simp; omega
            go_wp2_with fail
            go_meet
            case rel => exact ⟨false, rfl, Lib.hid (fun h => by omega), hr2, hg2⟩
      case rest =>
        obtain ⟨bb, rfl, HB, hr2, hg2⟩ := hcut
        obtain ⟨w2, hww2⟩ : ∃ w2, w2 = wc := ⟨_, rfl⟩
        subst hww2
        have kf2 := kfL.gr hg2 (by simp; omega)
        have ho2 := hoL.gr hg2 hRw
        have kz2 := kzL.gr hg2 (by simp; omega)
        have kn2 := knL.gr hg2 (by simp; omega)
        have hgr2 := gr_nx hgL hg2
        have hn2 : w2.cell? ⟨w1.heap.size + 2, k, none⟩ = some (.string s) := (kn2.cell k).trans HS.out
        cases bb
        · go_wp2_with fail
          go_roundw
          case rel => exact ⟨k + 1, n, c, l, A, v, by omega, by go_num, by omega, fun _ => (by have := HB.out; rcases Nat.eq_zero_or_pos k with hk0 | hk0 <;> simp_all <;> omega), kf2, ho2, h5L, kz2, kn2, hr2.less (by have := HF.out; omega), hgr2⟩
          case measure => simp [intOf]; omega
        · go_upto_region 7 with fail
          go_cut [6] (fun vv wd => ∃ (g c0 : Nat) (A0 : Option Addr) (u : Bool), vv = .pointer (some ⟨g, 0, none⟩) ∧ Blk wd g 30 #[.string s, .slice A0 0 c0, .bool u] ∧ wd.ownsRow w2.heap.size 9 1 (.slice A0 0 c0) 0 (([] : List ByteArray).map Value.string) ∧ w2.heap.size ≤ g ∧ Rd wd R (f + 5) ∧ w2.grownBy wd (some R))
          case first =>
            have hRc := hr2.lt
            have nR0 : w2.heap.size ≠ R := by omega
            have nR1 : w2.heap.size + 1 ≠ R := by omega
            have nR2 : w1.heap.size + 2 ≠ R := by have := hg0.size; omega
            have nRk : w1.heap.size + 2 < w2.heap.size := kn2.lt
            have nA : w1.heap.size + 2 ≠ w2.heap.size := by omega
            have nB : w1.heap.size + 2 ≠ w2.heap.size + 1 := by omega
            have nS := Lib.hid (show w2.heap.size + 1 = (w2.alloc (.cells #[] 9)).heap.size by simp)
            go_region_held3 (fun w' => w'.cell? ⟨w1.heap.size + 2, k, none⟩ = some (.string s)) (repeat' first | with_reducible assumption | with_reducible refine cell_dr ?_ | with_reducible refine cell_al ?_ _ | (with_reducible refine cell_st ?_ nA _) | (with_reducible refine cell_st ?_ nB _)) ((go_at_call 51; refine (pick_c R (f + 5) _ _ (by repeat' first | with_reducible assumption | with_reducible refine Rd.al ?_ _ | with_reducible refine Rd.dr ?_)).mono ?_; rintro e w3 ⟨v3, rfl, ⟨a3, b3, _⟩, hg3, hr3⟩; have hg4 := (by first | with_reducible exact first_gr hg3 | with_reducible exact hg3); have hn4 : w3.cell? ⟨w1.heap.size + 2, k, none⟩ = some (.string s) := (by first | with_reducible exact cell_gr hg4 hn2 nR2 | with_reducible exact cell_gr hg4 (cell_al hn2 _) nR2 | with_reducible exact cell_gr hg4 (cell_al (cell_al hn2 _) _) nR2); first | (with_reducible have kS := blk_new_gr (cs := stepZ) (t := 30) (g := w2.heap.size) hg4 rfl nR0; have cS := kS.cell; have fS := kS.frozen) | (with_reducible have kS := blk_new_gr (cs := stepZ) (t := 30) (g := w2.heap.size + 1) hg4 nS.out nR1; have cS := kS.cell; have fS := kS.frozen) | (with_reducible have kS := blk_new_al_gr (cs := stepZ) (t := 30) (g := w2.heap.size) hg4 rfl nR0; have cS := kS.cell; have fS := kS.frozen) | skip))
            all_goals go_wp2_with fail
            all_goals go_meet
            all_goals case rel =>
              go_light
              have hz4 := hg4.size
              try simp at hz4
              refine' ⟨_, 0, _, _, rfl, ?k1, ?k2, ?k3, ?k4, ?k5⟩
              case k1 => first | with_reducible exact Blk.new _ _ _ | with_reducible exact (Blk.new _ _ _).al _ | with_reducible exact blk3 kS | with_reducible exact blk3 (kS.al _) | (with_reducible refine blk_new_at ?_; simp)
              case k2 =>
                first
                  | with_reducible exact (own_gr (texts_at rfl (Nat.le_refl _)) hg4 hRc).alloc _
                  | (with_reducible refine own3 (own_gr ((texts_at rfl (Nat.le_refl _)).alloc _) hg4 hRc) ?_; simp [Value.ownBlock]; done)
                  | (with_reducible refine (texts_at rfl ?_).alloc _; omega)
                  | (with_reducible refine own3 (own_gr (texts_at ?_ ?_) hg4 hRc) ?_ <;> first | (simp; done) | (simp [Value.ownBlock]; done))
                  | (with_reducible refine own3 (texts_at rfl ?_) ?_; omega; simp [Value.ownBlock]; omega)
                  | (with_reducible refine texts_at ?_ ?_ <;> (simp <;> omega))
              case k3 => omega
              case k4 => repeat' first | with_reducible assumption | with_reducible refine Rd.al ?_ _ | (with_reducible refine Rd.set_ ?_ ?_ _; rotate_left; focus (simp; omega))
              case k5 => repeat' first | with_reducible exact gr_refl _ _ | with_reducible refine gr_al ?_ _ | (with_reducible refine gr_set ?_ ?_ _; rotate_left; focus (simp)) | with_reducible refine gr_nx ?_ hg4
          case rest =>
            obtain ⟨g, c0, A0, u, rfl, kg, hA, hgg, hr5, hg5⟩ := hcut
            have hcR := hr2.lt
            have hn5 : n ≤ 5 := by omega
            obtain ⟨raw, ho2a, ho2b, ho2c, ho2d⟩ := id ho2
            go_wp2_with fail
            go_loopw [7] (fun jv wr => ∃ (j m d : Nat) (D : Option Addr) (ys : List ByteArray), j ≤ n ∧ jv = .int .i64 (j : Int) ∧ m ≤ 4 ∧ m ≤ j ∧ Blk wr g 30 #[.string s, .slice D m d, .bool u] ∧ wr.ownsRow w2.heap.size 9 1 (.slice D m d) m (ys.map Value.string) ∧ Hid (∀ x ∈ ys, x.size ≤ 5) ∧ Rd wr R (f + (5 - j)) ∧ w2.grownBy wr (some R)) (fun jv _ => n - (intOf jv).toNat)
            case atStart => exact ⟨0, 0, c0, A0, [], by omega, rfl, by omega, by omega, kg, hA, Lib.hid (fun x h => by cases h), hr5, hg5⟩
            case round =>
              obtain ⟨j, m, d, D, ys, hj, rfl, hm4, hmj, kgL, hDL, HY, hrI, hgI⟩ := hrel
              have kfI := kf2.gr hgI (by simp; omega)
              have cfI := kfI.cell
              have cgI := kgL.cell
              by_cases hlj : j < n
              · obtain ⟨f2, hf2⟩ : ∃ f2, f + (5 - j) = f2 + 1 := ⟨f + (5 - j) - 1, by omega⟩
                have HF2 := Lib.hid hf2
                rw [hf2] at hrI
                clear hf2
                have q0 : (0 : Int) ≤ (j : Int) := by omega
                have q1 : (j : Int) < (n : Int) := by omega
                go_wp2_with fail
                refine (pick_c R f2 _ _ hrI).mono ?_
                rintro e w6 ⟨v6, rfl, _, hg6, hr6⟩
                have kf6 := kfI.gr hg6 (by simp; omega)
                have kg6 := kgL.gr hg6 (by simp; omega)
                have hD6 := own_gr hDL hg6 hcR
                have hgr6 := gr_nx hgI hg6
                have cf6 := kf6.cell
                have cg6 := kg6.cell
                have fg6 := kg6.frozen
                clear cfI cgI
                by_cases h6 : v6 = 0
                · have e6 : (v6 == 0) = true := by simpa using h6
                  clear h6
                  by_cases h4 : m < 4
                  · have e4 : decide ((m : Int) < 4) = true := decide_eq_true (by omega)
                    obtain ⟨b, off, nm, B9, m9, d9, af9, u9, rfl, hx, hc0, hc1, hc2, haf⟩ := SlP.get ho2.read hlj
                    have hnm5 := (h5L _ (List.mem_of_getElem? hx)).1
                    clear hx hc1 hc2 haf
                    have hne := kn2.lt
                    have hneG := own_ne_blk hD6 kg6 (by decide)
                    have hbR : b ≠ R := by
                      obtain ⟨g0, cap0, hA0, hgB0, _⟩ := ho2a.form (by omega)
                      obtain ⟨e1, _, _⟩ := slice_inj hA0
                      cases e1
                      omega
                    have hbw : b < w2.heap.size := cell_some_lt (p := ⟨b, off + j * 3, none⟩) (by rw [hc0]; rfl)
                    have hn6 : w6.cell? ⟨b, off + j * 3, none⟩ = some (.string nm) := (World.cell?_of_block (hgr6.block b hbw (fun e => hbR (Option.some.inj e)))).trans hc0
                    go_wp2_with fail
                    have x2 : w6.cell? ⟨w1.heap.size + 1, 1, none⟩ = some (.slice (some ⟨b, off, none⟩) n c) := kf6.cell 1
                    have hgb : b ≠ g := by omega
                    have hz6 := hgr6.size
                    have hgF : w1.heap.size + 1 ≠ g := by have := kn2.lt; omega
                    have hneF6 := own_ne_blk hD6 kf6 (by decide)
                    have hnb6 : (Value.slice D m d).ownBlock ≠ some b := by
                      obtain ⟨g0, cap0, hA0, _, _⟩ := ho2a.form (by omega)
                      obtain ⟨e1, _, _⟩ := slice_inj hA0
                      cases e1
                      intro e
                      have hb := hD6.lt b e
                      omega
                    refine wp_region_held_drew (S := (fun w' => w'.cell? ⟨w1.heap.size + 1, 1, none⟩ = some (.slice (some ⟨b, off, none⟩) n c) ∧ w'.cell? ⟨b, off + j * 3, none⟩ = some (.string nm))) (by kernel_rfl) ⟨cell_dr x2, cell_dr hn6⟩ (fun hHeld => ?_)
                    refine wpAnyH_take (i := 0) (v := ?_) rfl (by kernel_rfl) (by kernel_rfl) (by kernel_rfl) (fun _ _ _ h => h) (Or.inl ⟨by kernel_rfl, ?_⟩) (by assumption) ?_
                    rotate_left 1
                    · intro w' hSw; (try dsimp only at hSw); go_simp; try with_reducible rfl
                    simp only [Act.put, List.getElem_toArray, List.getElem_cons_zero, List.setIfInBounds_toArray, List.set_cons_zero, List.set_cons_succ]
                    refine wpAnyH_take (i := 2) (v := ?_) rfl (by kernel_rfl) (by kernel_rfl) (by kernel_rfl) (fun _ _ _ h => h) (Or.inl ⟨by kernel_rfl, ?_⟩) (by assumption) ?_
                    rotate_left 1
                    · intro w' hSw; (try dsimp only at hSw); go_simp; try with_reducible rfl
                    simp only [Act.put, List.getElem_toArray, List.getElem_cons_zero, List.getElem_cons_succ, List.setIfInBounds_toArray, List.set_cons_zero, List.set_cons_succ]
                    refine wpAnyH_take (i := 3) (v := ?_) rfl (by kernel_rfl) (by kernel_rfl) (by kernel_rfl) (fun _ _ _ h => h) (Or.inl ⟨by kernel_rfl, ?_⟩) (by assumption) ?_
                    rotate_left 1
                    · intro w' hSw; (try dsimp only at hSw); go_simp; try with_reducible rfl
                    simp only [Act.put, List.getElem_toArray, List.getElem_cons_zero, List.getElem_cons_succ, List.setIfInBounds_toArray, List.set_cons_zero, List.set_cons_succ]
                    refine wpAnyH_take (i := 4) (v := ?_) rfl (by kernel_rfl) (by kernel_rfl) (by kernel_rfl) (fun _ _ _ h => h) (Or.inl ⟨by kernel_rfl, ?_⟩) (by assumption) ?_
                    rotate_left 1
                    · intro w' hSw; (try dsimp only at hSw); go_simp; try with_reducible rfl
                    simp only [Act.put, List.getElem_toArray, List.getElem_cons_zero, List.getElem_cons_succ, List.setIfInBounds_toArray, List.set_cons_zero, List.set_cons_succ]
                    refine wpAnyH_take (i := 5) (v := ?_) rfl (by kernel_rfl) (by kernel_rfl) (by kernel_rfl) (fun _ _ _ h => h) (Or.inl ⟨by kernel_rfl, ?_⟩) (by assumption) ?_
                    rotate_left 1
                    · intro w' hSw; (try dsimp only at hSw); go_simp; try with_reducible rfl
                    simp only [Act.put, List.getElem_toArray, List.getElem_cons_zero, List.getElem_cons_succ, List.setIfInBounds_toArray, List.set_cons_zero, List.set_cons_succ]
                    refine wpAnyH_take (i := 6) (v := ?_) rfl (by kernel_rfl) (by kernel_rfl) (by kernel_rfl) (fun _ _ _ h => h) (Or.inl ⟨by kernel_rfl, ?_⟩) (by assumption) ?_
                    rotate_left 1
                    · intro w' hSw; (try dsimp only at hSw); go_simp; try with_reducible rfl
                    simp only [Act.put, List.getElem_toArray, List.getElem_cons_zero, List.getElem_cons_succ, List.setIfInBounds_toArray, List.set_cons_zero, List.set_cons_succ]
                    refine wpAnyH_take (i := 7) (v := ?_) rfl (by kernel_rfl) (by kernel_rfl) (by kernel_rfl) (fun _ _ _ h => h) (Or.inl ⟨by kernel_rfl, ?_⟩) (by assumption) ?_
                    rotate_left 1
                    · intro w' hSw; (try dsimp only at hSw); go_simp; try with_reducible rfl
                    simp only [Act.put, List.getElem_toArray, List.getElem_cons_zero, List.getElem_cons_succ, List.setIfInBounds_toArray, List.set_cons_zero, List.set_cons_succ]
                    refine wpAnyH_ready (rs := [1, 8]) (by kernel_rfl) (by simp) ?_
                    refine AllReadyH.cons rfl (fun K hK => ?_) (AllReadyH.cons rfl (fun K hK => ?_) AllReadyH.nil)
                    · go_simp
                      refine hK.out _ _ ⟨cell_dr x2, cell_dr hn6⟩ (fun hHeld => ?_)
                      clear hK K
                      try simp only [Act.put, List.getElem_toArray, List.getElem_cons_zero, List.getElem_cons_succ, List.setIfInBounds_toArray, List.set_cons_zero, List.set_cons_succ]
                      refine wpAnyH_ready (rs := [8]) (by kernel_rfl) (by simp) ?_
                      refine AllReadyH.cons rfl (fun K hK => ?_) AllReadyH.nil
                      go_simp
                      refine hK.out _ _ ⟨cell_dr (cell_al x2 _), cell_dr (cell_al hn6 _)⟩ (fun hHeld => ?_)
                      clear hK K
                      try simp only [Act.put, List.getElem_toArray, List.getElem_cons_zero, List.getElem_cons_succ, List.setIfInBounds_toArray, List.set_cons_zero, List.set_cons_succ]
                      refine wpAnyH_ready (rs := [9]) (by kernel_rfl) (by simp) ?_
                      refine AllReadyH.cons rfl (fun K hK => ?_) AllReadyH.nil
                      refine step_append_sl (enc := encS) (by rfl) _ _ 28 (by rfl) w2.heap.size 9 i1 (.string ByteArray.empty) 1 16 Try.underlying28 hi1 hy0 hy1 hy2 rfl (by decide) (.slice D m d) m (ys.map Value.string) (by rfl) (own_dr' hD6) (some ⟨w6.heap.size, 0, none⟩) 1 1 [nm] (by rfl) (fun _ => rfl) (sl_one_dr w6 nm) one_S (by unfold maxLen; omega) (by omega) (by simp; omega) ?_; intro v7 w7 ho7 hg7 hl7; obtain ⟨A7, c7, rfl⟩ := own_form ho7; rw [flat_encS, ← List.map_append] at ho7; have kg7 := app_dr kg6 hg7 (fun e => hneG e.symm); have kf7 := app_dr kf6 hg7 (fun e => hneF6 e.symm); have cg7 := kg7.cell; have fg7 := kg7.frozen; have y2 : w7.cell? ⟨w1.heap.size + 1, 1, none⟩ = some (.slice (some ⟨b, off, none⟩) n c) := kf7.cell 1; have y3 : w7.cell? ⟨b, off + j * 3, none⟩ = some (.string nm) := app_cell hn6 hg7 (fun e => hnb6 e.symm)
                      refine hK.out _ _ ⟨y2, y3⟩ (fun hHeld => ?_)
                      clear hK K
                      try simp only [Act.put, List.getElem_toArray, List.getElem_cons_zero, List.getElem_cons_succ, List.setIfInBounds_toArray, List.set_cons_zero, List.set_cons_succ]
                      refine wpAnyH_take (i := 10) (v := ?_) rfl (by kernel_rfl) (by kernel_rfl) (by kernel_rfl) (fun _ _ _ h => h) (Or.inl ⟨by kernel_rfl, ?_⟩) (by assumption) ?_
                      rotate_left 1
                      · intro w' hSw; (try dsimp only at hSw); go_simp; try with_reducible rfl
                      simp only [Act.put, List.getElem_toArray, List.getElem_cons_zero, List.getElem_cons_succ, List.setIfInBounds_toArray, List.set_cons_zero, List.set_cons_succ]
                      refine wpAnyH_ready (rs := [11]) (by kernel_rfl) (by simp) ?_
                      refine AllReadyH.cons rfl (fun K hK => ?_) AllReadyH.nil
                      go_simp
                      refine hK.out _ _ ⟨cell_st y2 hgF _, cell_st y3 hgb _⟩ (fun hHeld => ?_)
                      clear hK K
                      try simp only [Act.put, List.getElem_toArray, List.getElem_cons_zero, List.getElem_cons_succ, List.setIfInBounds_toArray, List.set_cons_zero, List.set_cons_succ]
                      refine wpAnyH_done (by kernel_rfl) ?_ _
                      go_wp2_with fail
                      go_roundw
                      case measure => simp [intOf]; omega
                      go_light
                      have hz7 := hg7.size
                      simp at hz7
                      refine ⟨j + 1, m + 1, c7, A7, ys ++ [nm], by omega, by go_num, by omega, by omega, by simpa using kg7.set_ 1 (.slice A7 (m + 1) c7), ho7.kept (gr_cell _ _ _ _) (.inr (own_ne_blk ho7 kg7 (by decide))), Lib.hid (fun x hx => ?_), ?_, ?_⟩
                      · rcases List.mem_append.1 hx with hx | hx
                        · exact HY.out x hx
                        · simp at hx; subst hx; exact hnm5
                      · have hh := hr6.kept (wx := w7) (fun q hq => (hg7.block q (by have := hr6.lt; simp; omega) (fun e => by have := (hD6.lt q e.symm).1; omega)).trans (Below.heap_alloc w6 _ q (by have := hr6.lt; omega)))
                        exact (hh.set_ (by simp; omega) _).less (by have := HF2.out; omega)
                      · exact gr_set (app_gr hgr6 (first_gr' hg7) (fun q hq => (hD6.lt q hq).1)) (by simp; omega) _
                    · go_simp
                      refine hK.out _ _ ⟨cell_dr (cell_al x2 _), cell_dr (cell_al hn6 _)⟩ (fun hHeld => ?_)
                      clear hK K
                      try simp only [Act.put, List.getElem_toArray, List.getElem_cons_zero, List.getElem_cons_succ, List.setIfInBounds_toArray, List.set_cons_zero, List.set_cons_succ]
                      refine wpAnyH_ready (rs := [1]) (by kernel_rfl) (by simp) ?_
                      refine AllReadyH.cons rfl (fun K hK => ?_) AllReadyH.nil
                      go_simp
                      refine hK.out _ _ ⟨cell_dr (cell_al x2 _), cell_dr (cell_al hn6 _)⟩ (fun hHeld => ?_)
                      clear hK K
                      try simp only [Act.put, List.getElem_toArray, List.getElem_cons_zero, List.getElem_cons_succ, List.setIfInBounds_toArray, List.set_cons_zero, List.set_cons_succ]
                      refine wpAnyH_ready (rs := [9]) (by kernel_rfl) (by simp) ?_
                      refine AllReadyH.cons rfl (fun K hK => ?_) AllReadyH.nil
                      refine step_append_sl (enc := encS) (by rfl) _ _ 28 (by rfl) w2.heap.size 9 i1 (.string ByteArray.empty) 1 16 Try.underlying28 hi1 hy0 hy1 hy2 rfl (by decide) (.slice D m d) m (ys.map Value.string) (by rfl) (own_dr' hD6) (some ⟨w6.heap.size, 0, none⟩) 1 1 [nm] (by rfl) (fun _ => rfl) (sl_one_dr w6 nm) one_S (by unfold maxLen; omega) (by omega) (by simp; omega) ?_; intro v7 w7 ho7 hg7 hl7; obtain ⟨A7, c7, rfl⟩ := own_form ho7; rw [flat_encS, ← List.map_append] at ho7; have kg7 := app_dr kg6 hg7 (fun e => hneG e.symm); have kf7 := app_dr kf6 hg7 (fun e => hneF6 e.symm); have cg7 := kg7.cell; have fg7 := kg7.frozen; have y2 : w7.cell? ⟨w1.heap.size + 1, 1, none⟩ = some (.slice (some ⟨b, off, none⟩) n c) := kf7.cell 1; have y3 : w7.cell? ⟨b, off + j * 3, none⟩ = some (.string nm) := app_cell hn6 hg7 (fun e => hnb6 e.symm)
                      refine hK.out _ _ ⟨y2, y3⟩ (fun hHeld => ?_)
                      clear hK K
                      try simp only [Act.put, List.getElem_toArray, List.getElem_cons_zero, List.getElem_cons_succ, List.setIfInBounds_toArray, List.set_cons_zero, List.set_cons_succ]
                      refine wpAnyH_take (i := 10) (v := ?_) rfl (by kernel_rfl) (by kernel_rfl) (by kernel_rfl) (fun _ _ _ h => h) (Or.inl ⟨by kernel_rfl, ?_⟩) (by assumption) ?_
                      rotate_left 1
                      · intro w' hSw; (try dsimp only at hSw); go_simp; try with_reducible rfl
                      simp only [Act.put, List.getElem_toArray, List.getElem_cons_zero, List.getElem_cons_succ, List.setIfInBounds_toArray, List.set_cons_zero, List.set_cons_succ]
                      refine wpAnyH_ready (rs := [11]) (by kernel_rfl) (by simp) ?_
                      refine AllReadyH.cons rfl (fun K hK => ?_) AllReadyH.nil
                      go_simp
                      refine hK.out _ _ ⟨cell_st y2 hgF _, cell_st y3 hgb _⟩ (fun hHeld => ?_)
                      clear hK K
                      try simp only [Act.put, List.getElem_toArray, List.getElem_cons_zero, List.getElem_cons_succ, List.setIfInBounds_toArray, List.set_cons_zero, List.set_cons_succ]
                      refine wpAnyH_done (by kernel_rfl) ?_ _
                      go_wp2_with fail
                      go_roundw
                      case measure => simp [intOf]; omega
                      go_light
                      have hz7 := hg7.size
                      simp at hz7
                      refine ⟨j + 1, m + 1, c7, A7, ys ++ [nm], by omega, by go_num, by omega, by omega, by simpa using kg7.set_ 1 (.slice A7 (m + 1) c7), ho7.kept (gr_cell _ _ _ _) (.inr (own_ne_blk ho7 kg7 (by decide))), Lib.hid (fun x hx => ?_), ?_, ?_⟩
                      · rcases List.mem_append.1 hx with hx | hx
                        · exact HY.out x hx
                        · simp at hx; subst hx; exact hnm5
                      · have hh := hr6.kept (wx := w7) (fun q hq => (hg7.block q (by have := hr6.lt; simp; omega) (fun e => by have := (hD6.lt q e.symm).1; omega)).trans (Below.heap_alloc w6 _ q (by have := hr6.lt; omega)))
                        exact (hh.set_ (by simp; omega) _).less (by have := HF2.out; omega)
                      · exact gr_set (app_gr hgr6 (first_gr' hg7) (fun q hq => (hD6.lt q hq).1)) (by simp; omega) _
                  · have e4 : decide ((m : Int) < 4) = false := decide_eq_false (by omega)
                    go_wp2_with fail
                    go_roundw
                    case rel => exact ⟨j + 1, m, d, D, ys, by omega, by go_num, by omega, by omega, kg6, hD6, HY, hr6.less (by have := HF2.out; omega), hgr6⟩
                    case measure => simp [intOf]; omega
                · have e6 : (v6 == 0) = false := by simpa using h6
                  clear h6
                  go_wp2_with fail
                  go_roundw
                  case rel => exact ⟨j + 1, m, d, D, ys, by omega, by go_num, by omega, by omega, kg6, hD6, HY, hr6.less (by have := HF2.out; omega), hgr6⟩
                  case measure => simp [intOf]; omega
              · have hjn : j = n := by omega
                subst hjn
                have hkI := kfI.lt
                have hrw := hgI.size
                have hO := own_gr ho2a hgI hRw
                have hneF := own_ne_blk hO kfI (by decide)
                have hgrI := gr_nx hgr2 hgI
                have hsI := hgrI.size
                have hP : ∀ (i : Nat) (r : RawP) (s : Stp), raw[i]? = some r → l[i]? = some s → OwnS wr w.heap.size r s := fun i r s hr hs => ⟨(ho2d i r s hr hs).1, (ho2d i r s hr hs).2.1, own_gr (ho2d i r s hr hs).2.2 hgI hRw⟩
                go_wp2_with (at_builtin; refine wpList_append_sl (enc := encP) rfl _ _ 23 rfl w.heap.size 30 i0 (.agg #[.string ByteArray.empty, .slice none 0 0, .bool false]) 3 48 Try.underlying23 hi0 hz0 hz1 hz2 rfl (by decide) (.slice A j c) j (raw.flatMap encP) rfl (hO.alloc _) (some ⟨wr.heap.size, 0, none⟩) 1 1 [⟨s, D, m, d, u⟩] rfl (fun _ => rfl) (Sl.one (Blk.new _ _ _)) one_P (by unfold maxLen; omega) (by omega) (by simp; omega) ?_; intro v7 w7 ho7 hg7 hl7; obtain ⟨A7, c7, rfl⟩ := own_form ho7; have kf7 := (kfI.al _).gr hg7 (fun e => hneF e.symm); have cf7 := kf7.cell; have ff7 := kf7.frozen)
                go_roundw
                case rel =>
                  go_light
                  have hz7 := hg7.size
                  simp at hz7
                  have hs2 := hgr2.size
                  have hb7 : ∀ q, (Value.slice A j c).ownBlock = some q → w.heap.size ≤ q := fun q hq => (hO.lt q hq).1
                  have hkeep : ∀ {g' : Nat} {t : TypeId} {cs : Array Value}, Blk wr g' t cs → t ≠ 30 → g' ≠ w1.heap.size + 1 → Blk (w7.setCell ⟨w1.heap.size + 1, 1, none⟩ (.slice A7 (j + 1) c7)) g' t cs := fun hB ht hg' => ((hB.al _).gr hg7 (fun e => own_ne_blk hO hB (Ne.symm ht) e.symm)).far hg' _
                  have hD7 : OwnS (wr.alloc (.cells #[.string s, .slice D m d, .bool u] 30)) w.heap.size ⟨s, D, m, d, u⟩ ⟨s, ys, u⟩ := ⟨rfl, rfl, (ownsRow_base hDL (by omega)).alloc _⟩
                  refine ⟨k + 1, j + 1, c7, l ++ [⟨s, ys, u⟩], A7, v, by omega, by go_num, by omega, fun _ => by omega, by simpa using kf7.set_ 1 (.slice A7 (j + 1) c7), ?_, sm5_snoc h5L hs5 (by have := hDL.1; simp at this; simp; omega) HY.out, hkeep (kz2.gr hgI (by simp; omega)) (by decide) (by omega), hkeep (kn2.gr hgI (by simp; omega)) (by decide) (by omega), ?_, ?_⟩
                  · exact (OwnQ.snoc (hO.alloc _) ho2b ho2c (fun i r s hr hs => ⟨(hP i r s hr hs).1, (hP i r s hr hs).2.1, (hP i r s hr hs).2.2.alloc _⟩) hD7 ho7 hg7).blk kf7 (by decide) (by decide) (gr_cell _ _ _ _)
                  · have hh := hrI.kept (wx := w7) (fun q hq => (hg7.block q (by have := hrI.lt; simp; omega) (fun e => by have := hb7 q e.symm; omega)).trans (Below.heap_alloc wr _ q (by have := hrI.lt; omega)))
                    exact (hh.set_ (by simp; omega) _).less (by have := HF.out; omega)
                  · exact gr_set (app_gr hgrI hg7 hb7) (by simp; omega) _
                case measure => simp [intOf]; omega
    · have hk6 : k = 6 := by omega
      subst hk6
      have hn1 : 1 ≤ n := hkn (by omega)
      have hrL := hrL.less (q' := q + 2) (by omega)
      go_wp2_with fail
      refine (pick_c R (q + 1) _ _ hrL).mono ?_
      rintro e w3 ⟨v3, rfl, _, hg3, hr3⟩
      have kf3 := kfL.gr hg3 (by simp; omega)
      have ho3 := hoL.gr hg3 hRw
      have kz3 := kzL.gr hg3 (by simp; omega)
      have hgr3 := gr_nx hgL hg3
      have hs3 := hgr3.size
      have hne0 : w.heap.size ≠ w1.heap.size + 1 := by omega
      have cf3 := kf3.cell
      have ff3 := kf3.frozen
      clear hrL hoL kfL kzL knL hg3
      obtain ⟨raw, r1, r2, r3, r4⟩ := id ho3
      obtain ⟨g0, cap0, hA0, hgB, hgL0⟩ := r1.form (by omega)
      obtain ⟨rfl, _, rfl⟩ := slice_inj hA0
      obtain ⟨⟨x0, hx0⟩, hf0⟩ := own_at r1 (j := 1) (by omega)
      have hgF : g0 ≠ w1.heap.size + 1 := by
        have := own_ne_blk r1 kf3 (by decide)
        intro e
        exact this (by rw [← e]; rfl)
      have hgZ : g0 ≠ w.heap.size := by
        have := own_ne_blk r1 kz3 (by decide)
        intro e
        exact this (by rw [← e]; rfl)
      obtain ⟨s0, hs0⟩ : ∃ s0, l[0]? = some s0 := ⟨_, List.getElem?_eq_getElem (by omega)⟩
      have hS0 := h5L _ (List.mem_of_getElem? hs0)
      go_upto_block 4 with fail
      go_cut [] (fun wc => ∃ (v : Int) (A : Option Addr) (c : Nat) (l : List Stp), Blk wc (w1.heap.size + 1) 25 #[.int .i64 v, .slice A n c] ∧ OwnQ wc w.heap.size A n c l ∧ Sm5 l ∧ Blk wc w.heap.size 25 #[.int .i64 0, .slice none 0 0] ∧ Rd wc R q ∧ w.grownBy wc (some R))
      case first =>
        by_cases h0 : v3 = 0
        · have e0 : (v3 == 0) = true := by simpa using h0
          clear h0
          go_wp2_with fail
          have kA := kf3.al (.cells #[.int .i64 0, .int .i64 99, .int .i64 100] 3)
          have kzA := kz3.al (.cells #[.int .i64 0, .int .i64 99, .int .i64 100] 3)
          have kL := Blk.new w3 3 #[.int .i64 0, .int .i64 99, .int .i64 100]
          refine (pick_c R q _ _ (hr3.al _)).mono ?_
          rintro e w5 ⟨v5, rfl, ⟨a5, b5, _⟩, hg5, hr5⟩
          have b5 := b5 (by omega)
          obtain ⟨z, hlit⟩ := lit3i 0 99 100 v5 a5 b5
          have k5 := kA.gr hg5 (by simp; omega)
          have kz5 := kzA.gr hg5 (by simp; omega)
          have kl5 := kL.gr hg5 (by simp; omega)
          have c5 := k5.cell
          have f5 := k5.frozen
          have cl5 := kl5.cell
          clear cf3 ff3
          go_wp2_with fail
          go_meet
          case rel =>
            go_light
            exact ⟨z, _, _, l, by simpa using k5.set_ 0 (.int .i64 z), ((ho3.al _).gr hg5 hRw).blk k5 (by decide) (by decide) (gr_cell _ _ _ _), h5L, kz5.far hne0 _, hr5.set_ (by simp; omega) _, gr_set (gr_nx (gr_al hgr3 _) hg5) (by simp; omega) _⟩
        · have e0 : (v3 == 0) = false := by simpa using h0
          clear h0
          by_cases h1 : v3 = 1
          · have e1 : (v3 == 1) = true := by simpa using h1
            clear h1
            obtain ⟨p, rfl⟩ : ∃ p, n = p + 1 := ⟨n - 1, by omega⟩
            obtain ⟨b, off, nm, B9, m9, d9, af9, u9, hA9, hx, hc0, _, _, _⟩ := SlP.get ho3.read (i := p) (by omega)
            cases hA9
            have hnm5 := (h5L _ (List.mem_of_getElem? hx)).1
            clear hx
            simp only [Nat.zero_add] at hc0
            have hwj : IntKind.i64.wrap (p : Int) = (p : Int) := by rw [IntKind.wrap_i64]; omega
            have j0 : (0 : Int) ≤ (p : Int) := by omega
            have j1 : (p : Int) < (p : Int) + 1 := by omega
            have j2 : (0 : Int) < (p : Int) + 1 := by omega
            have x2 : w3.cell? ⟨w1.heap.size + 1, 1, none⟩ = some (.slice (some ⟨g0, 0, none⟩) (p + 1) c) := kf3.cell 1
            have hp1 : 1 ≠ p * 3 := by omega
            have hx1 := cell_al hx0 (.cells #[.string nm] 9)
            have hf1 : (w3.alloc (.cells #[.string nm] 9)).frozen? ⟨g0, 1, none⟩ = false := (r1.alloc _).frozenAt 1
            go_wp2_with fail
            go_region_held3 (fun w' => w'.cell? ⟨w1.heap.size + 1, 1, none⟩ = some (.slice (some ⟨g0, 0, none⟩) (p + 1) c) ∧ w'.cell? ⟨g0, p * 3, none⟩ = some (.string nm)) (first | with_reducible exact ⟨cell_dr x2, cell_dr hc0⟩ | with_reducible exact ⟨cell_dr (cell_al x2 _), cell_dr (cell_al hc0 _)⟩ | with_reducible exact ⟨x2, hc0⟩ | with_reducible exact ⟨cell_al x2 _, cell_al hc0 _⟩ | with_reducible exact ⟨cell_st (cell_dr (cell_al x2 _)) hgF.symm _, cell_so (cell_dr (cell_al hc0 _)) hp1 _⟩ | with_reducible exact ⟨cell_dr (cell_st (cell_al x2 _) hgF.symm _), cell_dr (cell_so (cell_al hc0 _) hp1 _)⟩ | with_reducible exact ⟨cell_st (cell_al x2 _) hgF.symm _, cell_so (cell_al hc0 _) hp1 _⟩ | with_reducible exact ⟨cell_dr (cell_al (cell_st x2 hgF.symm _) _), cell_dr (cell_al (cell_so hc0 hp1 _) _)⟩ | with_reducible exact ⟨cell_al (cell_st x2 hgF.symm _) _, cell_al (cell_so hc0 hp1 _) _⟩) (fail)
            all_goals
              go_wp2_with fail
              go_meet
              go_light
              have hS := OwnQ.setAfter (D := some ⟨w3.heap.size, 0, none⟩) (m := 1) (d := 1) (ys := [nm]) (ho3.al (.cells #[.string nm] 9)) hs0 (text1_own w3 nm (by omega))
              simp only [Nat.zero_mul, Nat.zero_add] at hS
              rw [← World.setCell_alloc_past (w := w3) _ g0 1 _ hgL0]
              have hr3q := hr3.less (q' := q) (by omega)
              refine ⟨v, _, _, _, (kf3.al _).far hgF.symm _, hS, sm5_set h5L hS0.1 (by simp) (by simpa using hnm5), (kz3.al _).far hgZ.symm _, ?_, ?_⟩
              · repeat' first | exact hr3q | with_reducible refine Rd.dr ?_ | with_reducible refine Rd.al ?_ _ | (with_reducible refine Rd.set_ ?_ ?_ _; rotate_left; focus (simp; omega))
              · repeat' first | exact hgr3 | with_reducible refine gr_dr ?_ | with_reducible refine gr_al ?_ _ | (with_reducible refine gr_set ?_ ?_ _; rotate_left; focus (simp; omega))
          · have e1 : (v3 == 1) = false := by simpa using h1
            clear h1
            by_cases h2 : v3 = 2
            · have e2 : (v3 == 2) = true := by simpa using h2
              clear h2
              have j1 : (0 : Int) < (n : Int) := by omega
              have hx1 := cell_al hx0 (.cells #[.string ⟨#[122, 122]⟩] 9)
              have hf1 : (w3.alloc (.cells #[.string ⟨#[122, 122]⟩] 9)).frozen? ⟨g0, 1, none⟩ = false := (r1.alloc _).frozenAt 1
              go_wp2_with fail
              go_meet
              go_light
              have hS := OwnQ.setAfter (D := some ⟨w3.heap.size, 0, none⟩) (m := 1) (d := 1) (ys := [⟨#[122, 122]⟩]) (ho3.al (.cells #[.string ⟨#[122, 122]⟩] 9)) hs0 (text1_own w3 ⟨#[122, 122]⟩ (by omega))
              simp only [Nat.zero_mul, Nat.zero_add] at hS
              rw [← World.setCell_alloc_past (w := w3) _ g0 1 _ hgL0]
              have hr3q := hr3.less (q' := q) (by omega)
              refine ⟨v, _, _, _, (kf3.al _).far hgF.symm _, hS, sm5_set h5L hS0.1 (by simp) (by simp; decide), (kz3.al _).far hgZ.symm _, ?_, ?_⟩
              · repeat' first | exact hr3q | with_reducible refine Rd.dr ?_ | with_reducible refine Rd.al ?_ _ | (with_reducible refine Rd.set_ ?_ ?_ _; rotate_left; focus (simp; omega))
              · repeat' first | exact hgr3 | with_reducible refine gr_dr ?_ | with_reducible refine gr_al ?_ _ | (with_reducible refine gr_set ?_ ?_ _; rotate_left; focus (simp; omega))
            · have e2 : (v3 == 2) = false := by simpa using h2
              clear h2
              go_wp2_with fail
              go_meet
              go_light
              exact ⟨v, _, _, l, kf3, ho3, h5L, kz3, hr3.less (by omega), hgr3⟩
      case rest =>
        obtain ⟨v, A, c, l, kfC, hoC, h5C, kzC, hrC, hgC⟩ := hcut
        have cf := kfC.cell
        have cz := kzC.cell
        have fz := kzC.frozen
        clear cf3 ff3
        go_wp2_with fail
        have K := (kzC.set_ 0 (.int .i64 v)).set_ 1 (.slice A n c)
        have cK := K.cell
        refine bodyPost_ret (v := .agg #[.int .i64 v, .slice A n c]) (by simp [results, Try.results50, go_sem, cK]) rfl ?_
        go_light
        exact ⟨v, A, n, c, l, rfl, (hoC.blk kzC (by decide) (by decide) (gr_cell _ _ _ _)).blk (kzC.set_ 0 _) (by decide) (by decide) (gr_cell _ _ _ _), hn1, by omega, h5C, gr_set (gr_set hgC (by simp) _) (by simp) _, (hrC.set_ (by simp; omega) _).set_ (by simp; omega) _⟩
end Go.Proofs.Ytdchfiiaollheaa
