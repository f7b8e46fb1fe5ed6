/- A timer is put at its place: the walk over the reference's TimerPut. -/
import Derived.Test.YtpkakpldhlldeaaTimIns
import Derived.Test.YtpkakpldhlldeaaTimBef
namespace Go.Proofs.Ytpkakpldhlldeaa
open Go.RowKit

theorem before_b (x y : Int) (s t : ByteArray) (b : Bool) (w : World) (hb : ltT (x, s) (y, t) = b) : Calls Try.prog 43 #[.agg #[.int .i64 x, .string s], .agg #[.int .i64 y, .string t]] w fun e w' => e = .returned (.bool b) ∧ Below w.heap.size w w' := by
  rw [← hb]; exact before_c x y s t w

set_option maxRecDepth 20000 in
set_option maxHeartbeats 4000000 in
theorem specTimerPut_c (A : Option Addr) (n c : Nat) (l : List R2) (x : Int) (s : ByteArray) (w : World) (h : SlT w A n c l) (hz : SzT l) (hs : s.size ≤ 9223372036854775807) (hn : n ≤ 1048576) : Calls Try.prog 14 #[.slice A n c, .agg #[.int .i64 x, .string s]] w fun e w' =>
    ∃ A' n' c', e = .returned (.tuple #[.slice A' n' c', .bool (putR l (x, s)).2]) ∧ w'.ownsRow w.heap.size 25 2 (.slice A' n' c') n' ((putR l (x, s)).1.flatMap encT) ∧ Below w.heap.size w w' := by
  obtain ⟨i0, hi0, hz0, hz1, hz2⟩ := info_parts tim_info
  have HL := Lib.hid h.len
  have hcap := h.cap
  have hmax := h.max
  have kb := Blk.new w 25 #[.int .i64 x, .string s]
  have hW := bel_al (bel_refl w) (.cells #[.int .i64 x, .string s] 25)
  go_enter Try.func14, Try.ntmps14
  go_wp2_with fail
  refine (specTimersValid_c A n c l _ (h.al _) hz).mono ?_
  rintro e w1 ⟨rfl, hb1⟩
  have kb := kb.bel hb1
  have hW := bel_nx hW hb1
  have hwz := hb1.size
  simp at hwz
  clear hb1
  cases hv : timB l
  · have HG := Lib.hid (putR_no1 (x := (x, s)) hv)
    clear hv
    go_wp2_with fail
    go_ret2
    rw [HG.out]
    exact ⟨_, _, _, rfl, ownsRow_base (tims_new w1) hW.size, bel_al hW _⟩
  have HV := Lib.hid hv
  clear hv
  have ck := kb.cell
  go_wp2_with fail
  have k1 := Blk.new w1 25 #[.int .i64 x, .string s]
  have kb := kb.al (.cells #[.int .i64 x, .string s] 25)
  have hW := bel_al hW (.cells #[.int .i64 x, .string s] 25)
  refine (specTimersValid_c (some ⟨w1.heap.size, 0, none⟩) 1 1 [(x, s)] _ (Sl.one k1) (fun r hr => by simp at hr; subst hr; exact hs)).mono ?_
  rintro e w2 ⟨rfl, hb2⟩
  rw [timB_one]
  have kb := kb.bel hb2
  have hW := bel_nx hW hb2
  have hwz2 := hb2.size
  simp at hwz2
  clear hb2 k1 ck
  obtain ⟨bo, hbo⟩ : ∃ q, okT (x, s) = q := ⟨_, rfl⟩
  rw [hbo]
  have HO := Lib.hid hbo
  clear hbo
  cases bo
  · have HG := Lib.hid (putR_no2 (l := l) HO.out)
    go_wp2_with fail
    go_ret2
    rw [HG.out]
    exact ⟨_, _, _, rfl, ownsRow_base (tims_new w2) hW.size, bel_al hW _⟩
  have hrow := ownsRow_base (B' := w.heap.size + 1) (tims_new w2) (by omega)
  have kb := kb.al (.cells #[] 25)
  have hW := bel_al hW (.cells #[] 25)
  go_wp2_with fail
  go_loopw [6, 7, 8] (fun ov dv iv wr => ∃ (k : Nat) (out : List R2) (done : Bool) (F : Option Addr) (fn fc : Nat), k ≤ n ∧ iv = .int .i64 (k : Int) ∧ dv = .bool done ∧ ov = .slice F fn fc ∧ fn ≤ k + done.toNat ∧ wr.ownsRow (w.heap.size + 1) 25 2 (.slice F fn fc) fn (out.flatMap encT) ∧ Hid (putSt (withF (l.take k) s) (x, s) done out) ∧ Blk wr w.heap.size 25 #[.int .i64 x, .string s] ∧ Below w.heap.size w wr) (fun _ _ iv _ => n - (intOf iv).toNat)
  case atStart => exact ⟨0, [], false, _, _, _, Nat.zero_le _, rfl, rfl, rfl, by simp, hrow, Lib.hid (putSt_start _), kb, hW⟩
  case round =>
    obtain ⟨k, out, done, F, fn, fc, hk, rfl, rfl, rfl, hfn, ho, HP, kb, hbr⟩ := hrel
    have hsz := hbr.size
    have hkl := kb.lt
    by_cases hlt : k < n
    · obtain ⟨b, off, y, t, rfl, hx, hc0, hc1⟩ := SlT.get h hlt
      have HX := Lib.hid hx
      clear hx
      have i0' : (0 : Int) ≤ (k : Int) := by omega
      have i1' : (k : Int) < (n : Int) := by omega
      have e0 := cell_later hbr hc0
      have e1 := cell_later hbr hc1
      have ck := kb.cell
      by_cases hts : t = s
      · subst hts
        have exn : (t.toList != t.toList) = false := by simp
        have HN := Lib.hid (withF_out HX.out rfl)
        go_wp2_with fail
        go_quiet (fail)
        go_wp2_with fail
        go_roundw
        case rel => exact ⟨k + 1, out, done, F, fn, fc, by omega, by go_num, rfl, rfl, by omega, ho, by rw [HN.out]; exact HP, kb.drN _, bel_drN hbr _⟩
        case measure => simp [intOf]; omega
      · have exy : (t.toList == s.toList) = false := beqS_no hts
        have exn : (t.toList != s.toList) = true := by rw [bne, exy]; rfl
        have HN := Lib.hid (withF_in HX.out hts)
        clear hts
        cases done
        · have hfn : fn ≤ k := hfn
          obtain ⟨q, hq⟩ : ∃ q, ltT (x, s) (y, t) = q := ⟨_, rfl⟩
          have HQ := Lib.hid hq
          clear hq
          go_wp2_with fail
          go_quiet (fail)
          obtain ⟨wq, hw_wq⟩ : ∃ W0 : World, W0 = wr.drewN nq := ⟨_, rfl⟩
          rw [← hw_wq]
          have ho : wq.ownsRow (w.heap.size + 1) 25 2 (.slice F fn fc) fn (out.flatMap encT) := by rw [hw_wq]; exact ho
          have kb : Blk wq w.heap.size 25 #[.int .i64 x, .string s] := by rw [hw_wq]; exact kb.drN _
          have hbr : Below w.heap.size w wq := by rw [hw_wq]; exact bel_drN hbr _
          have hsz := hbr.size
          have hkl := kb.lt
          clear hw_wq
          have ck := kb.cell
          have e0 := cell_later hbr hc0
          have e1 := cell_later hbr hc1
          go_wp2_with fail
          go_region_held3 (fun w' => w'.cell? ⟨b, off + k * 2, none⟩ = some (.int .i64 y) ∧ w'.cell? ⟨b, off + k * 2 + 1, none⟩ = some (.string t) ∧ w'.cell? ⟨w.heap.size, 0, none⟩ = some (.int .i64 x) ∧ w'.cell? ⟨w.heap.size, 1, none⟩ = some (.string s))
            (first | go_keep | exact ⟨e0, e1, ck 0, ck 1⟩ | exact ⟨cell_later hb3 e0, cell_later hb3 e1, cell_later hb3 (ck 0), cell_later hb3 (ck 1)⟩)
            ((first | (go_at_call 43; refine (before_b x y s t q _ HQ.out).mono ?_; rintro e w3 ⟨rfl, hb3⟩)))
          have ho := own_bel (w := wq.drew) ho hb3
          have kb := Blk.bel (w := wq.drew) kb hb3
          have hbr := bel_nx (bel_dr hbr) hb3
          have hsz := hbr.size
          have hkl := kb.lt
          clear e0 e1 ck
          have ck := kb.cell
          have e0 := cell_later hbr hc0
          have e1 := cell_later hbr hc1
          cases q
          · have HS := Lib.hid (putSt_pass HP.out HQ.out)
            go_wp2_with (at_builtin; refine wpList_append_sl (enc := encT) rfl _ _ 23 rfl (w.heap.size + 1) 25 i0 (.agg #[.int .i64 0, .string ByteArray.empty]) 2 24 Try.underlying23 hi0 hz0 hz1 hz2 rfl (by decide) _ fn (out.flatMap encT) rfl (ho.alloc _) (some ⟨w3.heap.size, 0, none⟩) 1 1 [(y, t)] rfl (fun _ => rfl) (Sl.one (Blk.new _ _ _)) one_T (by unfold maxLen; omega) (by omega) (by simp; omega) ?_; intro v7 w7 ho7 hg7 hl7; obtain ⟨A7, c7, rfl⟩ := own_form ho7; rw [← List.flatMap_append] at ho7)
            have hb7 : Below w.heap.size w w7 := (bel_al hbr _).grown hg7 (by simp; omega) (fun j hj => by have := (ho.lt j hj).1; omega)
            have kb7 := (kb.al _).gr hg7 (fun e => by have := (ho.lt _ e.symm).1; omega)
            go_roundw
            case rel => exact ⟨k + 1, out ++ [(y, t)], false, A7, fn + 1, c7, by omega, by go_num, rfl, rfl, (by first | (simp only [Bool.toNat_true]; omega) | (simp only [Bool.toNat_false]; omega)), ho7, by rw [HN.out]; exact HS.out, kb7, hb7⟩
            case measure => simp [intOf]; omega
          · have HS := Lib.hid (putSt_new HP.out HQ.out)
            go_wp2_with (first | (at_builtin; refine wpList_append_sl (enc := encT) rfl _ _ 23 rfl (w.heap.size + 1) 25 i0 (.agg #[.int .i64 0, .string ByteArray.empty]) 2 24 Try.underlying23 hi0 hz0 hz1 hz2 rfl (by decide) _ (fn + 1) ((out ++ [(x, s)]).flatMap encT) rfl (ho6.alloc _) (some ⟨w6.heap.size, 0, none⟩) 1 1 [(y, t)] rfl (fun _ => rfl) (Sl.one (Blk.new _ _ _)) one_T (by unfold maxLen; omega) (by omega) (by simp; omega) ?_; intro v7 w7 ho7 hg7 hl7; obtain ⟨A7, c7, rfl⟩ := own_form ho7; rw [← List.flatMap_append] at ho7) | (at_builtin; refine wpList_append_sl (enc := encT) rfl _ _ 23 rfl (w.heap.size + 1) 25 i0 (.agg #[.int .i64 0, .string ByteArray.empty]) 2 24 Try.underlying23 hi0 hz0 hz1 hz2 rfl (by decide) _ fn (out.flatMap encT) rfl (ho.alloc _) (some ⟨w3.heap.size, 0, none⟩) 1 1 [(x, s)] rfl (fun _ => rfl) (Sl.one (Blk.new _ _ _)) one_T (by unfold maxLen; omega) (by omega) (by simp; omega) ?_; intro v6 w6 ho6 hg6 hl6; obtain ⟨A6, c6, rfl⟩ := own_form ho6; rw [← List.flatMap_append] at ho6; have hb6 : Below w.heap.size w w6 := (bel_al hbr _).grown hg6 (by simp; omega) (fun j hj => by have := (ho.lt j hj).1; omega); have hz6 := hb6.size; have kb6 := (kb.al _).gr hg6 (fun e => by have := (ho.lt _ e.symm).1; omega); have kl6 := kb6.lt; have f0 := cell_later hb6 hc0; have f1 := cell_later hb6 hc1))
            have hb7 : Below w.heap.size w w7 := (bel_al hb6 _).grown hg7 (by simp; omega) (fun j hj => by have := (ho6.lt j hj).1; omega)
            have kb7 := (kb6.al _).gr hg7 (fun e => by have := (ho6.lt _ e.symm).1; omega)
            go_roundw
            case rel => exact ⟨k + 1, out ++ [(x, s)] ++ [(y, t)], true, A7, fn + 1 + 1, c7, by omega, by go_num, rfl, rfl, (by first | (simp only [Bool.toNat_true]; omega) | (simp only [Bool.toNat_false]; omega)), ho7, by rw [HN.out]; exact HS.out, kb7, hb7⟩
            case measure => simp [intOf]; omega
        · have hfn : fn ≤ k + 1 := hfn
          have HS := Lib.hid (putSt_on (y := (y, t)) HP.out)
          go_wp2_with fail
          go_quiet (fail)
          obtain ⟨wq, hw_wq⟩ : ∃ W0 : World, W0 = wr.drewN nq := ⟨_, rfl⟩
          rw [← hw_wq]
          have ho : wq.ownsRow (w.heap.size + 1) 25 2 (.slice F fn fc) fn (out.flatMap encT) := by rw [hw_wq]; exact ho
          have kb : Blk wq w.heap.size 25 #[.int .i64 x, .string s] := by rw [hw_wq]; exact kb.drN _
          have hbr : Below w.heap.size w wq := by rw [hw_wq]; exact bel_drN hbr _
          have hsz := hbr.size
          have hkl := kb.lt
          clear hw_wq
          have ck := kb.cell
          have e0 := cell_later hbr hc0
          have e1 := cell_later hbr hc1
          go_wp2_with fail
          go_quiet (fail)
          obtain ⟨wp, hw_wp⟩ : ∃ W0 : World, W0 = wq.drewN nq := ⟨_, rfl⟩
          rw [← hw_wp]
          have ho : wp.ownsRow (w.heap.size + 1) 25 2 (.slice F fn fc) fn (out.flatMap encT) := by rw [hw_wp]; exact ho
          have kb : Blk wp w.heap.size 25 #[.int .i64 x, .string s] := by rw [hw_wp]; exact kb.drN _
          have hbr : Below w.heap.size w wp := by rw [hw_wp]; exact bel_drN hbr _
          have hsz := hbr.size
          have hkl := kb.lt
          clear hw_wp
          have ck := kb.cell
          have e0 := cell_later hbr hc0
          have e1 := cell_later hbr hc1
          go_wp2_with (at_builtin; refine wpList_append_sl (enc := encT) rfl _ _ 23 rfl (w.heap.size + 1) 25 i0 (.agg #[.int .i64 0, .string ByteArray.empty]) 2 24 Try.underlying23 hi0 hz0 hz1 hz2 rfl (by decide) _ fn (out.flatMap encT) rfl (ho.alloc _) (some ⟨wp.heap.size, 0, none⟩) 1 1 [(y, t)] rfl (fun _ => rfl) (Sl.one (Blk.new _ _ _)) one_T (by unfold maxLen; omega) (by omega) (by simp; omega) ?_; intro v7 w7 ho7 hg7 hl7; obtain ⟨A7, c7, rfl⟩ := own_form ho7; rw [← List.flatMap_append] at ho7)
          have hb7 : Below w.heap.size w w7 := (bel_al hbr _).grown hg7 (by simp; omega) (fun j hj => by have := (ho.lt j hj).1; omega)
          have kb7 := (kb.al _).gr hg7 (fun e => by have := (ho.lt _ e.symm).1; omega)
          go_roundw
          case rel => exact ⟨k + 1, out ++ [(y, t)], true, A7, fn + 1, c7, by omega, by go_num, rfl, rfl, (by first | (simp only [Bool.toNat_true]; omega) | (simp only [Bool.toNat_false]; omega)), ho7, by rw [HN.out]; exact HS.out, kb7, hb7⟩
          case measure => simp [intOf]; omega
    · obtain rfl : k = n := by omega
      have hfn9 : fn ≤ k + 1 := by cases done <;> simp at hfn <;> omega
      rw [List.take_of_length_le (show l.length ≤ k by rw [HL.out]; omega)] at HP
      have ck := kb.cell
      obtain ⟨out2, hout⟩ : ∃ o, insT (x, s) (withF l s) = o := ⟨_, rfl⟩
      have hszo : SzT out2 := by rw [← hout]; exact insT_sz hs (withF_sz hz)
      have HOUT := Lib.hid hout
      clear hout
      cases done
      · have HE := Lib.hid ((putSt_end1 HP.out).trans HOUT.out)
        go_wp2_with (at_builtin; refine wpList_append_sl (enc := encT) rfl _ _ 23 rfl (w.heap.size + 1) 25 i0 (.agg #[.int .i64 0, .string ByteArray.empty]) 2 24 Try.underlying23 hi0 hz0 hz1 hz2 rfl (by decide) _ fn (out.flatMap encT) rfl (ho.alloc _) (some ⟨wr.heap.size, 0, none⟩) 1 1 [(x, s)] rfl (fun _ => rfl) (Sl.one (Blk.new _ _ _)) one_T (by unfold maxLen; omega) (by omega) (by simp; omega) ?_; intro v7 w7 ho7 hg7 hl7; obtain ⟨A7, c7, rfl⟩ := own_form ho7; rw [← List.flatMap_append, HE.out] at ho7)
        have hb7 : Below w.heap.size w w7 := (bel_al hbr _).grown hg7 (by simp; omega) (fun j hj => by have := (ho.lt j hj).1; omega)
        refine (specTimersValid_c A7 (fn + 1) c7 out2 _ (SlT.of_own ho7) hszo).mono ?_
        rintro e w8 ⟨rfl, hb8⟩
        have ho8 := own_bel ho7 hb8
        have hb9 := bel_nx hb7 hb8
        cases hv : timB out2
        · have HG := Lib.hid (putR_no3 (l := l) (x := (x, s)) (by show timB (insT (x, s) (withF l s)) = false; rw [HOUT.out]; exact hv))
          clear hv
          go_wp2_with fail
          go_ret2
          rw [HG.out]
          exact ⟨_, _, _, rfl, ownsRow_base (tims_new w8) hb9.size, bel_al hb9 _⟩
        · have hp := putR_yes (x := (x, s)) HV.out HO.out (by show timB (insT (x, s) (withF l s)) = true; rw [HOUT.out]; exact hv)
          rw [show insT (x, s) (withF l (x, s).2) = out2 from HOUT.out] at hp
          have HG := Lib.hid hp
          clear hv hp
          go_wp2_with fail
          go_ret2
          rw [HG.out]
          exact ⟨_, _, _, rfl, ownsRow_base ho8 (by omega), hb9⟩
      · have HE := Lib.hid ((putSt_end2 HP.out).trans HOUT.out)
        rw [HE.out] at ho
        go_wp2_with fail
        refine (specTimersValid_c F fn fc out2 _ (SlT.of_own ho) hszo).mono ?_
        rintro e w8 ⟨rfl, hb8⟩
        have ho8 := own_bel ho hb8
        have hb9 := bel_nx hbr hb8
        cases hv : timB out2
        · have HG := Lib.hid (putR_no3 (l := l) (x := (x, s)) (by show timB (insT (x, s) (withF l s)) = false; rw [HOUT.out]; exact hv))
          clear hv
          go_wp2_with fail
          go_ret2
          rw [HG.out]
          exact ⟨_, _, _, rfl, ownsRow_base (tims_new w8) hb9.size, bel_al hb9 _⟩
        · have hp := putR_yes (x := (x, s)) HV.out HO.out (by show timB (insT (x, s) (withF l s)) = true; rw [HOUT.out]; exact hv)
          rw [show insT (x, s) (withF l (x, s).2) = out2 from HOUT.out] at hp
          have HG := Lib.hid hp
          clear hv hp
          go_wp2_with fail
          go_ret2
          rw [HG.out]
          exact ⟨_, _, _, rfl, ownsRow_base ho8 (by omega), hb9⟩

end Go.Proofs.Ytpkakpldhlldeaa
