/- The draw of timers. -/
import Derived.Test.YtpkakpldhlldeaaTimS
import Derived.Test.YtpkakpldhlldeaaAppend
import Derived.Test.YtpkakpldhlldeaaDraw
namespace Go.Proofs.Ytpkakpldhlldeaa
open Go.RowKit

def timNames : Array Value := #[.string ⟨#[97]⟩, .string ⟨#[98]⟩, .string ⟨#[99]⟩, .string ⟨#[100]⟩, .string ⟨#[101]⟩, .string ⟨#[102]⟩, .string ⟨#[103]⟩, .string ⟨#[104]⟩, .string ⟨#[105]⟩]
theorem timNames_at {k : Nat} (h : k < 9) : ∃ s : ByteArray, timNames[k]? = some (.string s) ∧ s.size ≤ 5 := by
  rcases (show k = 0 ∨ k = 1 ∨ k = 2 ∨ k = 3 ∨ k = 4 ∨ k = 5 ∨ k = 6 ∨ k = 7 ∨ k = 8 by omega) with rfl | rfl | rfl | rfl | rfl | rfl | rfl | rfl | rfl
  all_goals exact ⟨_, rfl, by decide⟩
def Sz5T (l : List R2) : Prop := ∀ r ∈ l, r.2.size ≤ 6 ∧ -1000 ≤ r.1 ∧ r.1 ≤ 10000
theorem sz5T_snoc {l : List R2} {s : ByteArray} {x : Int} (h : Sz5T l) (hs : s.size ≤ 6) (hx : -1000 ≤ x ∧ x ≤ 10000) : Sz5T (l ++ [(x, s)]) := by
  intro r hr
  rcases List.mem_append.1 hr with h1 | h1
  · exact h r h1
  · simp at h1; subst h1; exact ⟨hs, hx⟩

set_option maxRecDepth 20000 in
set_option maxHeartbeats 1000000 in
theorem l92Timers_c (R q : Nat) (w : World) (h : Rd w R (q + 29)) : Calls Try.prog 35 #[.pointer (some ⟨R, 0, none⟩)] w fun e w' =>
    ∃ A n c l, e = .returned (.slice A n c) ∧ w'.ownsRow w.heap.size 25 2 (.slice A n c) n (l.flatMap encT) ∧ n ≤ 9 ∧ Sz5T l ∧ w.grownBy w' (some R) ∧ Rd w' R q := by
  have hRw := h.lt
  obtain ⟨i0, hi0, hz0, hz1, hz2⟩ := info_parts tim_info
  have hnb := Blk.new (w.alloc (.cells #[] 25)) 9 timNames
  rw [show (w.alloc (.cells #[] 25)).heap.size = w.heap.size + 1 by simp] at hnb
  have hown0 := (World.ownsRow_lit (size := 2) (e := 25) w #[] 0 (Nat.le_refl _) (by unfold maxLen; omega) rfl).alloc (.cells timNames 9)
  have h0 := (h.al (.cells #[] 25)).al (.cells timNames 9)
  have hg0 := gr_al (gr_al (gr_refl w (some R)) (.cells #[] 25)) (.cells timNames 9)
  go_enter Try.func35, Try.ntmps35
  go_wp2_with fail
  refine (pick_c R (q + 28) _ _ h0).mono ?_
  rintro e w1 ⟨v1, rfl, ⟨a1, b1, _⟩, hg1, hr1⟩
  have b1 := b1 (by omega)
  have hnb := hnb.gr hg1 (by simp; omega)
  have hown0 := own_gr hown0 hg1 hRw
  have hg0 := gr_nx hg0 hg1
  clear h0 hg1
  go_wp2_with fail
  go_loopw [3, 5, 6] (fun v av iv wr => ∃ (k : Nat) (l : List R2) (A : Option Addr) (c : Nat) (at_ : Int), k ≤ 9 ∧ iv = .int .i64 (k : Int) ∧ v = .slice A l.length c ∧ av = .int .i64 at_ ∧ l.length ≤ k ∧ 0 ≤ at_ ∧ at_ ≤ 19 + 29 * k ∧ wr.ownsRow w.heap.size 25 2 (.slice A l.length c) l.length (l.flatMap encT) ∧ Sz5T l ∧ Blk wr (w.heap.size + 1) 9 timNames ∧ Rd wr R (q + 1 + 3 * (9 - k)) ∧ w.grownBy wr (some R)) (fun _ _ iv _ => 9 - (intOf iv).toNat)
  case atStart => exact ⟨0, [], _, _, v1, by omega, rfl, rfl, rfl, by simp, a1, by omega, hown0, (fun r h => by cases h), hnb, hr1, hg0⟩
  case round =>
    obtain ⟨k, l, A, c, at_, hk, rfl, rfl, rfl, hlk, ha0, ha1, hown, h5, hblk, hrd, hgr⟩ := hrel
    have hzw : w.heap.size + 1 < wr.heap.size := hblk.lt
    by_cases hlt : k < 9
    · obtain ⟨f, hf⟩ : ∃ f, q + 1 + 3 * (9 - k) = f + 3 := ⟨q + 1 + 3 * (9 - (k + 1)), by omega⟩
      rw [hf] at hrd
      have HF := Lib.hid hf
      clear hf
      obtain ⟨s, hs, hs5⟩ := timNames_at hlt
      have HS := Lib.hid hs
      clear hs
      go_wp2_with fail
      refine (pick_c R (f + 2) _ _ (by repeat' first | assumption | refine Rd.al ?_ _ | refine Rd.dr ?_ | (refine Rd.set_ ?_ (by simp; omega) _))).mono ?_; rintro e w2 ⟨v2, rfl, ⟨a2, b2, _⟩, hg2, hr2⟩; obtain ⟨hc2, hf2⟩ := pcell hg2; have hl2 := hr2.lt; have hn2 := Nat.ne_of_gt hl2
      have hk2 := hblk.gr hg2 (by simp; omega)
      have ho2 := own_gr hown hg2 hRw
      have hgr2 := gr_nx hgr hg2
      clear hc2 hf2
      have k0 : (0 : Int) ≤ (k : Int) := by omega
      have k1 : (k : Int) < 9 := by omega
      have hn2 : w2.cell? ⟨w.heap.size + 1, k, none⟩ = some (.string s) := (hk2.cell k).trans HS.out
      by_cases hc : v2 = 0 ∧ l.length < 8
      · have e0 : (v2 == 0) = true := by simpa using hc.1
        have e8 : decide ((l.length : Int) < 8) = true := decide_eq_true (by omega)
        clear hc
        go_wp2_with (first
          | (at_builtin; refine wpList_append_sl (enc := encT) rfl _ _ 23 rfl w.heap.size 25 i0 (.agg #[.int .i64 0, .string ByteArray.empty]) 2 24 Try.underlying23 hi0 hz0 hz1 hz2 rfl (by decide) (.slice A l.length c) l.length (l.flatMap encT) rfl (ho2.alloc _) (some ⟨w2.heap.size, 0, none⟩) 1 1 [(at_, s)] rfl (fun _ => rfl) (Sl.one (Blk.new _ _ _)) one_T (by unfold maxLen; omega) (by omega) (by have := (hgr2).size; simp; omega) ?_; intro v7 w7 ho7 hg7 hl7; obtain ⟨A7, c7, rfl⟩ := own_form ho7; rw [← List.flatMap_append] at ho7; have hr7 := app_rd hr2 hg7 (fun j e => by have := ((ho2).lt j e).1; omega); have hb7 := app_blk hk2 hg7 (fun e => own_ne_blk ho2 hk2 (by decide) e.symm); have hgr7 := app_gr hgr2 hg7 (fun j hj => ((ho2).lt j hj).1))
          | (go_at_call 36; refine (pick_c R (f + 1) _ _ hr7).mono ?_; rintro e w8 ⟨v8, rfl, ⟨a8, b8, _⟩, hg8, hr8⟩; have b8 := b8 (by omega); have hw8 : IntKind.i64.wrap (at_ + v8) = at_ + v8 := (by rw [IntKind.wrap_i64]; omega)))
        go_roundw
        case rel => exact ⟨k + 1, l ++ [(at_, s)], A7, c7, at_ + v8, by omega, by go_num, by simp, rfl, by simp; omega, by omega, by omega, by simpa using own_gr ho7 hg8 hRw, sz5T_snoc h5 (by omega) (by omega), hb7.gr hg8 (by simp; omega), hr8.less (by have := HF.out; omega), gr_nx hgr7 hg8⟩
        case measure => simp [intOf]; omega
      · by_cases h20 : v2 = 0
        · have e0 : (v2 == 0) = true := by simpa using h20
          have e8 : decide ((l.length : Int) < 8) = false := decide_eq_false (fun h => hc ⟨h20, by omega⟩)
          clear hc h20
          go_wp2_with fail
          refine (pick_c R (f + 1) _ _ (by repeat' first | assumption | refine Rd.al ?_ _ | refine Rd.dr ?_ | (refine Rd.set_ ?_ (by simp; omega) _))).mono ?_; rintro e w3 ⟨v3, rfl, ⟨a3, b3, _⟩, hg3, hr3⟩; obtain ⟨hc3, hf3⟩ := pcell hg3; have hl3 := hr3.lt; have hn3 := Nat.ne_of_gt hl3
          have hk3 := hk2.gr hg3 (by simp; omega)
          have ho3 := own_gr ho2 hg3 hRw
          have hgr3 := gr_nx hgr2 hg3
          clear hc3 hf3 hn2
          have hn3 : w3.cell? ⟨w.heap.size + 1, k, none⟩ = some (.string s) := (hk3.cell k).trans HS.out
          by_cases h30 : v3 = 0
          · have e3 : (v3 == 0) = true := by simpa using h30
            clear h30
            go_wp2_with (first
              | (at_builtin; refine wpList_append_sl (enc := encT) rfl _ _ 23 rfl w.heap.size 25 i0 (.agg #[.int .i64 0, .string ByteArray.empty]) 2 24 Try.underlying23 hi0 hz0 hz1 hz2 rfl (by decide) (.slice A l.length c) l.length (l.flatMap encT) rfl (ho3.alloc _) (some ⟨w3.heap.size, 0, none⟩) 1 1 [(at_, s)] rfl (fun _ => rfl) (Sl.one (Blk.new _ _ _)) one_T (by unfold maxLen; omega) (by omega) (by have := (hgr3).size; simp; omega) ?_; intro v7 w7 ho7 hg7 hl7; obtain ⟨A7, c7, rfl⟩ := own_form ho7; rw [← List.flatMap_append] at ho7; have hr7 := app_rd hr3 hg7 (fun j e => by have := ((ho3).lt j e).1; omega); have hb7 := app_blk hk3 hg7 (fun e => own_ne_blk ho3 hk3 (by decide) e.symm); have hgr7 := app_gr hgr3 hg7 (fun j hj => ((ho3).lt j hj).1))
              | (go_at_call 36; refine (pick_c R f _ _ hr7).mono ?_; rintro e w8 ⟨v8, rfl, ⟨a8, b8, _⟩, hg8, hr8⟩; have b8 := b8 (by omega); have hw8 : IntKind.i64.wrap (at_ + v8) = at_ + v8 := (by rw [IntKind.wrap_i64]; omega)))
            go_roundw
            case rel => exact ⟨k + 1, l ++ [(at_, s)], A7, c7, at_ + v8, by omega, by go_num, by simp, rfl, by simp; omega, by omega, by omega, by simpa using own_gr ho7 hg8 hRw, sz5T_snoc h5 (by omega) (by omega), hb7.gr hg8 (by simp; omega), hr8.less (by have := HF.out; omega), gr_nx hgr7 hg8⟩
            case measure => simp [intOf]; omega
          · have e3 : (v3 == 0) = false := by simpa using h30
            clear h30
            go_wp2_with fail
            go_roundw
            case rel => exact ⟨k + 1, l, A, c, at_, by omega, by go_num, rfl, rfl, by omega, by omega, by omega, ho3, h5, hk3, hr3.less (by have := HF.out; omega), hgr3⟩
            case measure => simp [intOf]; omega
        · have e0 : (v2 == 0) = false := by simpa using h20
          clear hc h20
          go_wp2_with fail
          refine (pick_c R (f + 1) _ _ (by repeat' first | assumption | refine Rd.al ?_ _ | refine Rd.dr ?_ | (refine Rd.set_ ?_ (by simp; omega) _))).mono ?_; rintro e w3 ⟨v3, rfl, ⟨a3, b3, _⟩, hg3, hr3⟩; obtain ⟨hc3, hf3⟩ := pcell hg3; have hl3 := hr3.lt; have hn3 := Nat.ne_of_gt hl3
          have hk3 := hk2.gr hg3 (by simp; omega)
          have ho3 := own_gr ho2 hg3 hRw
          have hgr3 := gr_nx hgr2 hg3
          clear hc3 hf3 hn2
          have hn3 : w3.cell? ⟨w.heap.size + 1, k, none⟩ = some (.string s) := (hk3.cell k).trans HS.out
          by_cases h30 : v3 = 0
          · have e3 : (v3 == 0) = true := by simpa using h30
            clear h30
            go_wp2_with (first
              | (at_builtin; refine wpList_append_sl (enc := encT) rfl _ _ 23 rfl w.heap.size 25 i0 (.agg #[.int .i64 0, .string ByteArray.empty]) 2 24 Try.underlying23 hi0 hz0 hz1 hz2 rfl (by decide) (.slice A l.length c) l.length (l.flatMap encT) rfl (ho3.alloc _) (some ⟨w3.heap.size, 0, none⟩) 1 1 [(at_, s)] rfl (fun _ => rfl) (Sl.one (Blk.new _ _ _)) one_T (by unfold maxLen; omega) (by omega) (by have := (hgr3).size; simp; omega) ?_; intro v7 w7 ho7 hg7 hl7; obtain ⟨A7, c7, rfl⟩ := own_form ho7; rw [← List.flatMap_append] at ho7; have hr7 := app_rd hr3 hg7 (fun j e => by have := ((ho3).lt j e).1; omega); have hb7 := app_blk hk3 hg7 (fun e => own_ne_blk ho3 hk3 (by decide) e.symm); have hgr7 := app_gr hgr3 hg7 (fun j hj => ((ho3).lt j hj).1))
              | (go_at_call 36; refine (pick_c R f _ _ hr7).mono ?_; rintro e w8 ⟨v8, rfl, ⟨a8, b8, _⟩, hg8, hr8⟩; have b8 := b8 (by omega); have hw8 : IntKind.i64.wrap (at_ + v8) = at_ + v8 := (by rw [IntKind.wrap_i64]; omega)))
            go_roundw
            case rel => exact ⟨k + 1, l ++ [(at_, s)], A7, c7, at_ + v8, by omega, by go_num, by simp, rfl, by simp; omega, by omega, by omega, by simpa using own_gr ho7 hg8 hRw, sz5T_snoc h5 (by omega) (by omega), hb7.gr hg8 (by simp; omega), hr8.less (by have := HF.out; omega), gr_nx hgr7 hg8⟩
            case measure => simp [intOf]; omega
          · have e3 : (v3 == 0) = false := by simpa using h30
            clear h30
            go_wp2_with fail
            go_roundw
            case rel => exact ⟨k + 1, l, A, c, at_, by omega, by go_num, rfl, rfl, by omega, by omega, by omega, ho3, h5, hk3, hr3.less (by have := HF.out; omega), hgr3⟩
            case measure => simp [intOf]; omega
    · have hrd := hrd.less (q' := q + 1) (by omega)
      by_cases h1 : 1 < l.length
      · have d1 : decide ((1 : Int) < (l.length : Int)) = true := decide_eq_true (by omega)
        have d2 : decide (1 < l.length) = true := decide_eq_true h1
        go_wp2_with fail
        refine (pick_c R (q) _ _ (by repeat' first | assumption | refine Rd.al ?_ _ | refine Rd.dr ?_ | (refine Rd.set_ ?_ (by simp; omega) _))).mono ?_; rintro e w2 ⟨v2, rfl, ⟨a2, b2, _⟩, hg2, hr2⟩; obtain ⟨hc2, hf2⟩ := pcell hg2; have hl2 := hr2.lt; have hn2 := Nat.ne_of_gt hl2
        have ho2 := own_gr hown hg2 hRw
        have hgr2 := gr_nx hgr hg2
        clear hc2 hf2
        by_cases h20 : v2 = 0
        · have e0 : (v2 == 0) = true := by simpa using h20
          clear h20
          obtain ⟨g, cap, hA', _, _⟩ := ho2.form (by omega)
          obtain ⟨rfl, _, rfl⟩ := slice_inj hA'
          obtain ⟨b1, off1, x, s, hA, hx, hc0, hc1⟩ := SlT.get (SlT.of_own ho2) (i := 0) (by omega)
          cases hA
          obtain ⟨b2, off2, x', s', hA, hy, hd0, hd1⟩ := SlT.get (SlT.of_own ho2) (i := 1) (by omega)
          cases hA
          have hfr := ho2.frozenAt 3
          have hss : s.size ≤ 6 := (h5 _ (List.mem_of_getElem? hx)).1
          have hx5 := (h5 _ (List.mem_of_getElem? hy)).2
          have hst := (ho2.stored 3 (.string s)).1
          rw [show (3 : Nat) = 1 * 2 + 1 from rfl, flat_set1 (enc := encT) (fun _ => rfl) (by omega) (a' := (x', s)) l 1 (x', s') hy rfl] at hst
          have HST := Lib.hid hst
          have h5' : Sz5T (l.set 1 (x', s)) := by
            intro r hr
            rcases List.mem_or_eq_of_mem_set hr with h | rfl
            · exact h5 r h
            · exact ⟨hss, hx5⟩
          have HG := Lib.hid (gr_set hgr2 (a := ⟨g, 1 * 2 + 1, none⟩) (ho2.lt g rfl).1 (.string s))
          have hRg : R < g := by have := (ho2.lt g rfl).1; omega
          have HR := Lib.hid (hr2.set_ (a := ⟨g, 1 * 2 + 1, none⟩) hRg (.string s))
          clear hst hx hy
          simp only [Nat.zero_mul, Nat.one_mul, Nat.zero_add, Nat.add_zero] at hc0 hc1 hd0 hd1
          go_wp2_with fail
          go_ret
          exact ⟨_, l.length, _, _, rfl, HST.out, by omega, h5', HG.out, HR.out⟩
        · have e0 : (v2 == 0) = false := by simpa using h20
          clear h20
          go_wp2_with fail
          go_ret
          exact ⟨A, l.length, c, l, rfl, ho2, by omega, h5, hgr2, hr2⟩
      · have d1 : decide ((1 : Int) < (l.length : Int)) = false := decide_eq_false (by omega)
        have d2 : decide (1 < l.length) = false := decide_eq_false h1
        go_wp2_with fail
        go_ret
        exact ⟨A, l.length, c, l, rfl, hown, by omega, h5, hgr, hrd.less (by omega)⟩

end Go.Proofs.Ytpkakpldhlldeaa
