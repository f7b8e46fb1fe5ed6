/- The draw of leases. -/
import Derived.Test.YthkgechljfjpdaaRecs
import Derived.Test.YthkgechljfjpdaaAppend
import Derived.Test.YthkgechljfjpdaaDraw
namespace Go.Proofs.Ythkgechljfjpdaa
open Go.RowKit

def leaseNames : Array Value := #[.string ⟨#[97]⟩, .string ⟨#[98]⟩, .string ⟨#[99]⟩, .string ⟨#[100]⟩, .string ⟨#[101]⟩, .string ⟨#[102]⟩, .string ⟨#[103]⟩, .string ⟨#[104]⟩, .string ⟨#[105]⟩]
theorem leaseNames_at {k : Nat} (h : k < 9) : ∃ s : ByteArray, leaseNames[k]? = some (.string s) ∧ s.size ≤ 5 := by
  rcases (show k = 0 ∨ k = 1 ∨ k = 2 ∨ k = 3 ∨ k = 4 ∨ k = 5 ∨ k = 6 ∨ k = 7 ∨ k = 8 by omega) with rfl | rfl | rfl | rfl | rfl | rfl | rfl | rfl | rfl
  all_goals exact ⟨_, rfl, by decide⟩

theorem lit3 (a b c v : Int) (h0 : 0 ≤ v) (h1 : v < 3) : ∃ z : Int, (#[Value.int .i64 a, .int .i64 b, .int .i64 c] : Array Value)[v.toNat]? = some (.int .i64 z) := by
  rcases (show v = 0 ∨ v = 1 ∨ v = 2 by omega) with rfl | rfl | rfl
  · exact ⟨a, rfl⟩
  · exact ⟨b, rfl⟩
  · exact ⟨c, rfl⟩

def Sz5 (l : List R3) : Prop := ∀ r ∈ l, r.1.size ≤ 6
theorem sz5_snoc {l : List R3} {s : ByteArray} {x y : Int} (h : Sz5 l) (hs : s.size ≤ 6) : Sz5 (l ++ [(s, x, y)]) := by
  intro r hr
  rcases List.mem_append.1 hr with h1 | h1
  · exact h r h1
  · simp at h1; subst h1; exact hs

set_option maxHeartbeats 1000000 in
theorem l92Leases_c (R q : Nat) (w : World) (h : Rd w R (q + 30)) : Calls Try.prog 33 #[.pointer (some ⟨R, 0, none⟩)] w fun e w' =>
    ∃ A n c l, e = .returned (.slice A n c) ∧ w'.ownsRow w.heap.size 45 3 (.slice A n c) n (l.flatMap encR) ∧ n ≤ 8 ∧ Sz5 l ∧ w.grownBy w' (some R) ∧ Rd w' R q := by
  have hRw := h.lt
  obtain ⟨i0, hi0, hz0, hz1, hz2⟩ := info_parts rec_info
  go_enter Try.func33, Try.ntmps33
  go_wp2_with fail
  go_loopw [3, 5] (fun v i wr => ∃ (k : Nat) (l : List R3) (A : Option Addr) (c : Nat), k ≤ 9 ∧ i = .int .i64 k ∧ v = .slice A l.length c ∧ wr.ownsRow w.heap.size 45 3 v l.length (l.flatMap encR) ∧ l.length ≤ 8 ∧ Sz5 l ∧ Blk wr (w.heap.size + 1) 9 leaseNames ∧ Rd wr R (q + 3 + 3 * (9 - k)) ∧ w.grownBy wr (some R)) (fun _ i _ => 9 - (intOf i).toNat)
  case atStart =>
    have hnb := Blk.new (w.alloc (.cells #[] 45)) 9 leaseNames
    rw [show (w.alloc (.cells #[] 45)).heap.size = w.heap.size + 1 by simp] at hnb
    refine ⟨0, [], _, _, by omega, rfl, rfl, ?_, by simp, (fun r h => by cases h), hnb, (h.al _).al _, gr_al (gr_al (gr_refl _ _) _) _⟩
    exact (World.ownsRow_lit w #[] 0 (Nat.le_refl _) (by unfold maxLen; omega) rfl).alloc _
  case round =>
    obtain ⟨k, l, A, c, hk, rfl, rfl, hown, hlk, h5, hblk, hrd, hgr⟩ := hrel
    have hzw : w.heap.size + 1 < wr.heap.size := hblk.lt
    by_cases hlt : k < 9
    · obtain ⟨f, hf⟩ : ∃ f, q + 3 + 3 * (9 - k) = f + 3 := ⟨q + 3 + 3 * (9 - (k + 1)), by omega⟩
      rw [hf] at hrd
      have HF := Lib.hid hf
      clear hf
      obtain ⟨s, hs, hs5⟩ := leaseNames_at hlt
      have HS := Lib.hid hs
      clear hs
      go_wp2_with fail
      refine (pick_c R (f + 2) _ _ (by repeat' first | assumption | refine Rd.al ?_ _ | refine Rd.dr ?_ | (refine Rd.set_ ?_ (by simp; omega) _))).mono ?_; rintro e w1 ⟨v1, rfl, ⟨a1, b1, _⟩, hg1, hr1⟩; obtain ⟨hc1, hf1⟩ := pcell hg1; have hl1 := hr1.lt; have hn1 := Nat.ne_of_gt hl1
      have hk1 := hblk.gr hg1 (by simp; omega)
      have ho1 := own_gr hown hg1 hRw
      clear hc1 hf1
      have k0 : (0 : Int) ≤ (k : Int) := by omega
      have k1 : (k : Int) < 9 := by omega
      by_cases h10 : v1 = 0
      · have e0 : (v1 == 0) = true := by simpa using h10
        clear h10
        by_cases h8 : l.length < 8
        · have e8 : decide ((l.length : Int) < 8) = true := decide_eq_true (by omega)
          go_wp2_with fail
          have hn1 : w1.cell? ⟨w.heap.size + 1, k, none⟩ = some (.string s) := (hk1.cell k).trans HS.out
          go_region_held3 (fun w' => w'.cell? ⟨w.heap.size + 1, k, none⟩ = some (.string s)) (first | go_keep | exact (hk4.cell k).trans HS.out | exact (hk3.cell k).trans HS.out | exact (hk2.cell k).trans HS.out | exact hn1 | exact ((hk3.al _).cell k).trans HS.out)
            ((first
              | (go_at_call 47; refine (pick_c R (f + 1) _ _ (by repeat' first | assumption | refine Rd.al ?_ _ | refine Rd.dr ?_ | (refine Rd.set_ ?_ (by simp; omega) _))).mono ?_; rintro e w2 ⟨v2, rfl, ⟨a2, b2, _⟩, hg2, hr2⟩; obtain ⟨hc2, hf2⟩ := pcell hg2; have hl2 := hr2.lt; have hn2 := Nat.ne_of_gt hl2; have hk2 := first_blk hk1 hg2 (by simp; omega); have ho2 := own_gr ho1 (first_gr hg2) hRw)
              | (go_at_call 47; refine (pick_c R (f) _ _ (by repeat' first | assumption | refine Rd.al ?_ _ | refine Rd.dr ?_ | (refine Rd.set_ ?_ (by simp; omega) _))).mono ?_; rintro e w3 ⟨v3, rfl, ⟨a3, b3, _⟩, hg3, hr3⟩; obtain ⟨hc3, hf3⟩ := pcell hg3; have hl3 := hr3.lt; have hn3 := Nat.ne_of_gt hl3; have hk3 := hk2.gr hg3 (by simp; omega); have ho3 := own_gr ho2 hg3 hRw; have hz3 := hk3.lt)
              | (refine step_append_sl (enc := encR) (by rfl) _ _ 23 (by rfl) w.heap.size 45 i0 (.agg #[.string ByteArray.empty, .int .i64 0, .int .i64 0]) 3 32 Try.underlying23 hi0 hz0 hz1 hz2 rfl (by decide) _ l.length (l.flatMap encR) (by rfl) (ho3.alloc _) (some ⟨w3.heap.size, 0, none⟩) 1 1 [(s, IntKind.i64.wrap (1 + v2), v3)] (by rfl) (fun _ => rfl) (Sl.one (Blk.new _ _ _)) (fun a u hu => by simp [encR] at hu; rcases hu with rfl | rfl | rfl <;> rfl) (by unfold maxLen; omega) (by omega) (by simp; omega) ?_; intro v' w4 ho4 hg4 hl4; have hk4 := app_blk hk3 hg4 (fun e => own_ne_blk ho3 hk3 (by decide) e.symm))))
          obtain ⟨A', c', rfl⟩ := own_form ho4
          go_wp2_with fail
          go_roundw
          case rel =>
            refine ⟨k + 1, l ++ [(s, IntKind.i64.wrap (1 + v2), v3)], A', c', by omega, by go_num, by simp, ?_, by simp; omega, sz5_snoc h5 (by omega), hk4, ?_, ?_⟩
            · simpa [List.flatMap_append] using ho4
            · have hF := HF.out
              exact (app_rd hr3 hg4 (fun j e => by have := (ho3.lt j e).1; omega)).less (by omega)
            · exact app_gr (gr_nx (gr_nx (gr_nx hgr hg1) (first_gr hg2)) hg3) hg4 (fun j hj => (ho3.lt j hj).1)
          case measure => simp [intOf]; omega
        · have e8 : decide ((l.length : Int) < 8) = false := decide_eq_false (by omega)
          go_wp2_with fail
          go_roundw
          case rel => exact ⟨k + 1, l, A, c, by omega, by go_num, rfl, ho1, by omega, h5, hk1, hr1.less (by have := HF.out; omega), gr_nx hgr hg1⟩
          case measure => simp [intOf]; omega
      · have e0 : (v1 == 0) = false := by simpa using h10
        clear h10
        go_wp2_with fail
        go_roundw
        case rel => exact ⟨k + 1, l, A, c, by omega, by go_num, rfl, ho1, by omega, h5, hk1, hr1.less (by have := HF.out; omega), gr_nx hgr hg1⟩
        case measure => simp [intOf]; omega
    · obtain rfl : k = 9 := by omega
      simp only [Nat.sub_self, Nat.mul_zero, Nat.add_zero] at hrd
      rcases Nat.eq_zero_or_pos l.length with hl0 | hl0
      · have hd : decide ((0 : Int) < (l.length : Int)) = false := decide_eq_false (by omega)
        have hd1 : decide (0 < l.length) = false := decide_eq_false (by omega)
        have HL := Lib.hid hl0
        clear hl0
        go_wp2_with fail
        go_ret
        exact ⟨_, _, _, l, rfl, hown, by omega, h5, hgr, hrd.less (by omega)⟩
      · have hd : decide ((0 : Int) < (l.length : Int)) = true := decide_eq_true (by omega)
        have hd1 : decide (0 < l.length) = true := decide_eq_true (by omega)
        go_wp2_with fail
        refine (pick_c R (q + 2) _ _ (by repeat' first | assumption | refine Rd.al ?_ _ | refine Rd.dr ?_ | (refine Rd.set_ ?_ (by simp; omega) _))).mono ?_; rintro e w1 ⟨v1, rfl, ⟨a1, b1, _⟩, hg1, hr1⟩; obtain ⟨hc1, hf1⟩ := pcell hg1; have hl1 := hr1.lt; have hn1 := Nat.ne_of_gt hl1
        have ho1 := own_gr hown hg1 hRw
        clear hc1 hf1
        by_cases h10 : v1 = 0
        · have e0 : (v1 == 0) = true := by simpa using h10
          clear h10
          go_wp2_with fail
          refine (pick_c R (q + 1) _ _ (by repeat' first | assumption | refine Rd.al ?_ _ | refine Rd.dr ?_ | (refine Rd.set_ ?_ (by simp; omega) _))).mono ?_; rintro e w2 ⟨v2, rfl, ⟨a2, b2, _⟩, hg2, hr2⟩; obtain ⟨hc2, hf2⟩ := pcell hg2; have hl2 := hr2.lt; have hn2 := Nat.ne_of_gt hl2
          have ho2 := own_gr ho1 hg2 hRw
          clear hc2 hf2
          have b2 := b2 (by omega)
          go_wp2_with fail
          refine (pick_c R (q) _ _ (by repeat' first | assumption | refine Rd.al ?_ _ | refine Rd.dr ?_ | (refine Rd.set_ ?_ (by simp; omega) _))).mono ?_; rintro e w3 ⟨v3, rfl, ⟨a3, b3, _⟩, hg3, hr3⟩; obtain ⟨hc3, hf3⟩ := pcell hg3; have hl3 := hr3.lt; have hn3 := Nat.ne_of_gt hl3
          have ho3 := own_gr (ho2.alloc (.cells #[.int .i64 0, .int .i64 99, .int .i64 100] 3)) hg3 hRw
          have hk3 := (Blk.new w2 3 #[.int .i64 0, .int .i64 99, .int .i64 100]).gr hg3 (by simp; omega)
          obtain ⟨z, hlit⟩ := lit3 0 99 100 v3 a3 (b3 (by omega))
          have hx := (hk3.cell v3.toNat).trans hlit
          obtain ⟨g, cap, hA, hgB, hgL⟩ := ho3.form hl0
          obtain ⟨rfl, _, rfl⟩ := slice_inj hA
          obtain ⟨⟨v0, hco⟩, hcf⟩ := own_at ho3 (j := v2.toNat * 3 + 1) (by omega)
          clear hc3 hf3 hlit
          go_wp2_with fail
          go_ret
          have hv : v2.toNat < l.length := by omega
          obtain ⟨⟨s, x, y⟩, hr⟩ : ∃ r, l[v2.toNat]? = some r := ⟨_, List.getElem?_eq_getElem hv⟩
          have hst := (ho3.stored (v2.toNat * 3 + 1) (.int .i64 z)).1
          rw [flat_set1 (enc := encR) (fun _ => rfl) (by omega) l _ _ hr (a' := (s, z, y)) rfl] at hst
          refine ⟨_, _, _, l.set v2.toNat (s, z, y), rfl, hst, by omega, ?_, ?_, ?_⟩
          · intro r hm
            rcases List.mem_or_eq_of_mem_set hm with h1 | h1
            · exact h5 r h1
            · subst h1; exact (h5 (s, x, y) (List.mem_of_getElem? hr) : s.size ≤ 6)
          · exact gr_set (gr_nx (gr_al (gr_nx (gr_nx hgr hg1) hg2) _) hg3) (by simp; omega) _
          · exact hr3.set_ (by simp; omega) _
        · have e0 : (v1 == 0) = false := by simpa using h10
          clear h10
          go_wp2_with fail
          go_ret
          exact ⟨_, _, _, l, rfl, ho1, by omega, h5, gr_nx hgr hg1, hr1.less (by omega)⟩

theorem drawLeasesValid_c (A : Option Addr) (n c : Nat) (zs : List Int) (w : World) (h : IsRow .u8 w A n c zs) : Calls Try.prog 15 #[.slice A n c] w fun e w' =>
    ∃ A' n' c' l, e = .returned (.slice A' n' c') ∧ SlR w' A' n' c' l ∧ n' ≤ 8 ∧ Sz5 l ∧ Below w.heap.size w w' := by
  go_enter Try.func15, Try.ntmps15
  go_wp2_with fail
  refine (l6Open_c A n c zs _ h).mono ?_
  rintro e w1 ⟨R, rfl, hrd, hb1, hR⟩
  go_wp2_with fail
  refine (l92Leases_c R 970 _ hrd).mono ?_
  rintro e w2 ⟨A', n', c', l, rfl, hs, hn, h5, hg2, hr2⟩
  go_wp2_with fail
  go_ret
  exact ⟨_, _, _, _, rfl, SlR.of_own hs, hn, h5, bel_gr hb1 hg2 hR⟩

theorem sz5_szR {l : List R3} (h : Sz5 l) : SzR l := fun r hr => Nat.le_trans (h r hr) (by omega)

end Go.Proofs.Ythkgechljfjpdaa
