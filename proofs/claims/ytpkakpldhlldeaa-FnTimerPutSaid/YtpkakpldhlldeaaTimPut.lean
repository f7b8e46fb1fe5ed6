/- A timer is put at its place: the walk over the program's TimerPut. -/
import Derived.Test.YtpkakpldhlldeaaTimIns
import Derived.Deep.RegionLaw
namespace Go.Proofs.Ytpkakpldhlldeaa
open Go.RowKit

set_option maxRecDepth 20000 in
set_option maxHeartbeats 4000000 in
theorem implTimerPut_c (A : Option Addr) (n c : Nat) (l : List R2) (x : Int) (s : ByteArray) (w : World) (h : SlT w A n c l) (hz : SzT l) (hs : s.size ≤ 9223372036854775807) (hn : n ≤ 1048576) : Calls Try.prog 13 #[.slice A n c, .agg #[.int .i64 x, .string s]] w fun e w' =>
    ∃ A' n' c', e = .returned (.tuple #[.slice A' n' c', .bool (putR l (x, s)).2]) ∧ w'.ownsRow w.heap.size 25 2 (.slice A' n' c') n' ((putR l (x, s)).1.flatMap encT) ∧ Below w.heap.size w w' := by
  obtain ⟨i0, hi0, hz0, hz1, hz2⟩ := info_parts tim_info
  have HL := Lib.hid h.len
  have hcap := h.cap
  have hmax := h.max
  have kb := Blk.new w 25 #[.int .i64 x, .string s]
  have h := h.al (.cells #[.int .i64 x, .string s] 25)
  have hW := bel_al (bel_refl w) (.cells #[.int .i64 x, .string s] 25)
  go_enter Try.func13, Try.ntmps13
  go_wp2_with fail
  refine (implTimersValid_c A n c l _ h hz).mono ?_
  rintro e w1 ⟨rfl, hb1⟩
  have h := h.bel hb1
  have kb := kb.bel hb1
  have hW := bel_nx hW hb1
  clear hb1
  cases hv : timB l
  · have HG := Lib.hid (putR_no1 (x := (x, s)) hv)
    clear hv
    go_wp2_with fail
    go_ret2
    rw [HG.out]
    exact ⟨_, _, _, rfl, World.ownsRow_nil _ _ _ _, hW⟩
  have HV := Lib.hid hv
  clear hv
  obtain ⟨bo, hbo⟩ : ∃ q, okT (x, s) = q := ⟨_, rfl⟩
  have HO := Lib.hid hbo
  clear hbo
  have ck := kb.cell
  go_wp2_with fail
  refine (timerValid_b x s bo _ hs HO.out).mono ?_
  rintro e w2 ⟨rfl, hb2⟩
  have h := h.bel hb2
  have kb := kb.bel hb2
  have hW := bel_nx hW hb2
  have hwz := hW.size
  clear hb2 ck
  have ck := kb.cell
  cases bo
  · have HG := Lib.hid (putR_no2 (l := l) HO.out)
    go_wp2_with fail
    go_ret2
    rw [HG.out]
    exact ⟨_, _, _, rfl, World.ownsRow_nil _ _ _ _, hW⟩
  go_wp2_with fail
  go_cut [6] (fun v wc => ∃ (k : Nat) (A1 : Option Addr) (c1 : Nat), v = .slice A1 (k + 1) c1 ∧ wc.ownsRow w.heap.size 25 2 (.slice A1 (k + 1) c1) (k + 1) ((withF l s ++ [(x, s)]).flatMap encT) ∧ Below w.heap.size w wc ∧ k = (withF l s).length)
  case first =>
    go_region_law (first
      | (go_simp; go_at_call 39; refine (withoutTimer_c A n c l s _ (by first | exact h | exact h.dr | exact h.al _ | exact (h.al _).dr | exact h.dr.al _) hn).mono ?_; rintro e w4 ⟨A4, k4, c4, rfl, ho4, hb4⟩; have kb4 := Blk.bel (by first | exact kb | exact kb.dr | exact kb.al _ | exact (kb.al _).dr | exact kb.dr.al _) hb4; have ck4 := kb4.cell; have hk4 := own_count2 ho4; have hkn := withF_len l s; have hk5 : k4 ≤ 1048576 := (by have := HL.out; omega); have HK4 := Lib.hid hk4; clear hk4 hkn; have hW4 : Below w.heap.size w w4 := (by first | exact bel_nx hW hb4 | exact bel_nx (bel_dr hW) hb4 | exact bel_nx (bel_al hW _) hb4 | exact bel_nx (bel_dr (bel_al hW _)) hb4 | exact bel_nx (bel_al (bel_dr hW) _) hb4); have hz4 := hW4.size; have ho4 := ownsRow_base (B' := w.heap.size) ho4 (by first | exact hwz | (simp; omega)); try (have kg4 := Blk.bel (by first | exact Blk.new w2 25 #[.int .i64 x, .string s] | exact (Blk.new w2 25 #[.int .i64 x, .string s]).dr) hb4))
      | (refine step_append_sl (enc := encT) (by rfl) _ _ 23 (by rfl) w.heap.size 25 i0 (.agg #[.int .i64 0, .string ByteArray.empty]) 2 24 Try.underlying23 hi0 hz0 hz1 hz2 rfl (by decide) (.slice A4 k4 c4) k4 ((withF l s).flatMap encT) (by rfl) (by first | exact ho4.alloc _ | exact own_dr (ho4.alloc _)) (some ⟨w4.heap.size, 0, none⟩) 1 1 [(x, s)] (by rfl) (fun _ => rfl) (Sl.one (by first | exact Blk.new w4 25 #[.int .i64 x, .string s] | exact (Blk.new w4 25 #[.int .i64 x, .string s]).dr)) one_T (by unfold maxLen; omega) (by omega) (by simp; omega) ?_; intro v7 w7 ho7 hg7 hl7; obtain ⟨A7, c7, rfl⟩ := own_form ho7)
      | (refine step_append_sl (enc := encT) (by rfl) _ _ 23 (by rfl) w.heap.size 25 i0 (.agg #[.int .i64 0, .string ByteArray.empty]) 2 24 Try.underlying23 hi0 hz0 hz1 hz2 rfl (by decide) (.slice A4 k4 c4) k4 ((withF l s).flatMap encT) (by rfl) (by first | exact ho4 | exact own_dr ho4) (some ⟨w2.heap.size, 0, none⟩) 1 1 [(x, s)] (by rfl) (fun _ => rfl) (Sl.one (by first | exact kg4 | exact kg4.dr)) one_T (by unfold maxLen; omega) (by omega) (by first | exact hz4 | (simp; omega)) ?_; intro v7 w7 ho7 hg7 hl7; obtain ⟨A7, c7, rfl⟩ := own_form ho7))
    all_goals (go_wp2_with fail; go_meet)
    all_goals case rel =>
      refine ⟨k4, A7, c7, rfl, by rw [List.flatMap_append]; exact ho7, ?_, HK4.out⟩
      first
        | exact hW4.grown hg7 hz4 (fun j hj => (ho4.lt j hj).1)
        | exact (bel_al hW4 _).grown hg7 (by simp; omega) (fun j hj => (ho4.lt j hj).1)
        | exact (bel_dr hW4).grown hg7 hz4 (fun j hj => (ho4.lt j hj).1)
        | exact (bel_dr (bel_al hW4 _)).grown hg7 (by simp; omega) (fun j hj => (ho4.lt j hj).1)
  case rest =>
    obtain ⟨k, A1, c1, rfl, ho, hWc, hk⟩ := hcut
    have HK := Lib.hid hk
    have hk8 : k ≤ 8 := by have := (timB_iff.1 HV.out).1; have := withF_len l s; omega
    clear hk h kb hW hwz ck
    obtain ⟨g, cap, hA, hgB, hgL⟩ := ho.form (by omega)
    obtain ⟨rfl, _, rfl⟩ := slice_inj hA
    go_wp2_with fail
    refine (sortFunc_c w.heap.size g (k + 1) c1 (withF l s ++ [(x, s)]) _ (by first | exact ho | exact own_dr ho) (by omega) (by rw [HK.out]; simp)).mono ?_
    rintro e w5 ⟨rfl, ho5, hg5⟩
    rw [put_sort (x := (x, s)) HV.out HK.out] at ho5
    have hW5 : Below w.heap.size w w5 := by
      first
        | exact hWc.grown hg5 hWc.size (fun j hj => by cases hj; exact hgB)
        | exact (bel_dr hWc).grown hg5 hWc.size (fun j hj => by cases hj; exact hgB)
    obtain ⟨out, hout⟩ : ∃ out, insT (x, s) (withF l s) = out := ⟨_, rfl⟩
    have hsz : SzT out := by rw [← hout]; exact insT_sz hs (withF_sz hz)
    rw [hout] at ho5
    have HOUT := Lib.hid hout
    clear hout
    go_wp2_with fail
    refine (implTimersValid_c _ _ _ out _ (SlT.of_own ho5) hsz).mono ?_
    rintro e w6 ⟨rfl, hb6⟩
    cases hv : timB out
    · have HG := Lib.hid (putR_no3 (l := l) (x := (x, s)) (by show timB (insT (x, s) (withF l s)) = false; rw [HOUT.out]; exact hv))
      clear hv
      go_wp2_with fail
      go_ret2
      rw [HG.out]
      exact ⟨_, _, _, rfl, World.ownsRow_nil _ _ _ _, bel_nx hW5 hb6⟩
    · have hp := putR_yes (x := (x, s)) HV.out HO.out (by show timB (insT (x, s) (withF l s)) = true; rw [HOUT.out]; exact hv)
      rw [show insT (x, s) (withF l (x, s).2) = out from HOUT.out] at hp
      have HG := Lib.hid hp
      clear hv hp
      go_wp2_with fail
      go_ret2
      rw [HG.out]
      exact ⟨_, _, _, rfl, own_bel ho5 hb6, bel_nx hW5 hb6⟩

end Go.Proofs.Ytpkakpldhlldeaa
