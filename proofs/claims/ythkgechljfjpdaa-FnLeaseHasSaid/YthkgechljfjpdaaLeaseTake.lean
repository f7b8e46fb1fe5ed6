/- A lease is taken: the walk over the program's LeaseTake. -/
import Derived.Test.YthkgechljfjpdaaLeaseTakePlain
import Derived.Test.YthkgechljfjpdaaLeaseGive2
namespace Go.Proofs.Ythkgechljfjpdaa
open Go.RowKit

theorem finR_yes {out : List R3} (h : leasesB out = true) : finR out = (out, true) := by simp [finR, h]
theorem finR_no {out : List R3} (h : leasesB out = false) : finR out = ([], false) := by simp [finR, h]

set_option maxRecDepth 100000 in
set_option maxHeartbeats 2000000 in
theorem implLeaseTake_c (A : Option Addr) (n c : Nat) (l : List R3) (now : Int) (s : ByteArray) (o span : Int) (w : World) (h : SlR w A n c l) (hz : SzR l) (hs : s.size ≤ 9223372036854775807) : Calls Try.prog 21 #[.slice A n c, .int .i64 now, .string s, .int .i64 o, .int .i64 span] w fun e w' =>
    ∃ A' n' c', e = .returned (.tuple #[.slice A' n' c', .bool (takeR l now s o span).2]) ∧ w'.ownsRow w.heap.size 45 3 (.slice A' n' c') n' ((takeR l now s o span).1.flatMap encR) ∧ Below w.heap.size w w' := by
  have HL := Lib.hid h.len
  have hcap := h.cap
  have hmax := h.max
  go_enter Try.func21, Try.ntmps21
  go_wp2_with fail
  refine (implLeasesValid_c _ _ _ l _ h hz).mono ?_
  rintro e w1 ⟨rfl, hb1⟩
  have h := h.bel hb1
  cases hv : leasesB l
  · have HF := Lib.hid (takeR_no (l := l) (now := now) (s := s) (o := o) (span := span) (by simp [takeOk, hv]))
    clear hv
    go_wp2_with fail
    go_ret2
    rw [HF.out]
    exact ⟨_, _, _, rfl, World.ownsRow_nil _ _ _ _, hb1⟩
  have HV := Lib.hid hv
  clear hv
  go_wp2_with fail
  obtain ⟨bt, ht⟩ : ∃ b, timeB now = b := ⟨_, rfl⟩
  refine (isTime_b now bt _ ht).mono ?_
  rintro e w2 ⟨rfl, rfl⟩
  have HT := Lib.hid ht
  clear ht
  cases bt
  · have HF := Lib.hid (takeR_no (l := l) (now := now) (s := s) (o := o) (span := span) (by simp [takeOk, HT.out]))
    go_wp2_with fail
    go_ret2
    rw [HF.out]
    exact ⟨_, _, _, rfl, World.ownsRow_nil _ _ _ _, hb1⟩
  go_wp2_with fail
  obtain ⟨bn, hn⟩ : ∃ b, nameB s = b := ⟨_, rfl⟩
  refine (implNameValid_b s bn _ hs hn).mono ?_
  rintro e w2 ⟨rfl, rfl⟩
  have HN := Lib.hid hn
  clear hn
  cases bn
  · have HF := Lib.hid (takeR_no (l := l) (now := now) (s := s) (o := o) (span := span) (by simp [takeOk, HN.out]))
    go_wp2_with fail
    go_ret2
    rw [HF.out]
    exact ⟨_, _, _, rfl, World.ownsRow_nil _ _ _ _, hb1⟩
  by_cases ho : inB o 1 99 = true ∧ inB span 1 9999 = true
  · obtain ⟨o1, o2⟩ := inB_iff.1 ho.1
    obtain ⟨s1, s2⟩ := inB_iff.1 ho.2
    obtain ⟨t1, t2⟩ := timeB_iff.1 HT.out
    have hok : takeOk l now s o span = true := by simp [takeOk, HV.out, HT.out, HN.out, ho.1, ho.2]
    have HK := Lib.hid hok
    have hn8 : n ≤ 8 := by rw [← HL.out]; exact leases_len HV.out
    clear ho hok
    have d1 : decide (o < 1) = false := decide_eq_false (by omega)
    have d2 : decide (99 < o) = false := decide_eq_false (by omega)
    have d3 : decide (span < 1) = false := decide_eq_false (by omega)
    have d4 : decide (9999 < span) = false := decide_eq_false (by omega)
    obtain ⟨ii, hi0, hz0, hz1, hz2⟩ := info_parts rec_info
    go_wp2_with (at_builtin; refine wpList_append_sl (enc := encR) rfl _ _ 23 rfl (w2.heap.size + 1) 45 ii (.agg #[.string ByteArray.empty, .int .i64 0, .int .i64 0]) 3 32 Try.underlying23 hi0 hz0 hz1 hz2 rfl (by decide) (.slice none 0 0) 0 [] rfl (World.ownsRow_nil _ _ _ _) A n c l rfl (fun _ => rfl) (h.al _) one_R (by unfold maxLen; omega) (by omega) (by simp) ?_; intro v' w3 hown hgrow hloc; obtain ⟨Av, cv, rfl⟩ := own_form hown)
    rw [Nat.zero_add, List.nil_append] at hown
    have hbw : Below w2.heap.size w2 w3 := (bel_al (bel_refl w2) _).grown hgrow (by simp) (fun j hj => by cases hj)
    have hX : Blk w3 w2.heap.size 45 #[.string s, .int .i64 o, .int .i64 (now + span)] := (Blk.new w2 45 #[.string s, .int .i64 o, .int .i64 (now + span)]).gr hgrow (by simp [Value.ownBlock])
    refine (leaseAt_c _ _ _ l s _ (SlR.of_own hown)).mono ?_
    rintro e w4 ⟨rfl, hb4⟩
    have hown := own_bel hown hb4
    have hX := hX.bel hb4
    have hbw := hbw.trans (hb4.mono hbw.size)
    rcases atR_cases l s with ⟨ha, hall⟩ | ⟨k, ⟨s', x, y⟩, ha, hk, hr, H⟩
    · rw [ha]
      have HF := Lib.hid (takeR_new HK.out hall)
      have hp := leases_pair HV.out
      have hii := isort_ins (x := (s, o, now + span)) hp
      have hll := HL.out
      have HI := Lib.hid hii
      have hxc := hX.cell
      have hxf := hX.frozen
      have hlen : (l ++ [(s, o, now + span)]).length = n + 1 := by simp [hll]
      have HLE := Lib.hid hlen
      clear ha hall hp hii hll hlen
      go_wp2_with (at_builtin; refine wpList_append_sl (enc := encR) rfl _ _ 23 rfl (w2.heap.size + 1) 45 ii (.agg #[.string ByteArray.empty, .int .i64 0, .int .i64 0]) 3 32 Try.underlying23 hi0 hz0 hz1 hz2 rfl (by decide) (.slice Av n cv) n (l.flatMap encR) rfl (hown.alloc _) (some ⟨w4.heap.size, 0, none⟩) 1 1 [(s, o, now + span)] rfl (fun _ => rfl) (Sl.one (Blk.new _ _ _)) one_R (by unfold maxLen; omega) (by omega) (by have := hX.lt; simp; omega) ?_; intro v5 w5 hown5 hgrow5 hloc5; obtain ⟨g, cap, rfl, hg1, hg2⟩ := hown5.form (by omega))
      have hbw5 : Below w2.heap.size w2 w5 := (hbw.alloc hbw.size _).grown hgrow5 (hbw.alloc hbw.size _).size (fun j hj => by have := (hown.lt j hj).1; omega)
      rw [← List.flatMap_append] at hown5
      refine (sortFunc_c (w2.heap.size + 1) g (n + 1) cap (l ++ [(s, o, now + span)]) _ hown5 (by omega) HLE.out).mono ?_
      rintro e w6 ⟨rfl, hown6, hgr6⟩
      rw [Nat.add_sub_cancel, ← HL.out, HI.out, HL.out] at hown6
      have hbw6 : Below w2.heap.size w2 w6 := hbw5.grown hgr6 hbw5.size (fun j hj => by cases hj; omega)
      have hzI : SzR (insR (s, o, now + span) l) := fun r hr => by rcases insR_mem.1 hr with rfl | h1; exact hs; exact hz r h1
      go_wp2_with fail
      refine (implLeasesValid_c _ _ _ _ _ (SlR.of_own hown6) hzI).mono ?_
      rintro e w7 ⟨rfl, hb7⟩
      have hown7 := own_bel hown6 hb7
      have hbw7 := hbw6.trans (hb7.mono hbw6.size)
      cases hfin : leasesB (insR (s, o, now + span) l)
      · have HFN := Lib.hid (finR_no hfin)
        clear hfin
        go_wp2_with fail
        go_ret2
        rw [HF.out, HFN.out]
        exact ⟨_, _, _, rfl, World.ownsRow_nil _ _ _ _, bel_nx hb1 hbw7⟩
      · have HFN := Lib.hid (finR_yes hfin)
        clear hfin
        go_wp2_with fail
        go_ret2
        rw [HF.out, HFN.out]
        exact ⟨_, _, _, rfl, ownsRow_base hown7 (Nat.le_succ_of_le hb1.size), bel_nx hb1 hbw7⟩
    · have hkn : k < n := by rw [← HL.out]; exact (List.getElem?_eq_some_iff.1 hk).1
      obtain ⟨g, cap, hA, hg1, hg2⟩ := hown.form (by omega)
      obtain ⟨rfl, _, rfl⟩ := slice_inj hA
      obtain ⟨b0, off0, s1, x1, y1, hA0, hx, hc0, hc1, hc2⟩ := SlR.get (SlR.of_own hown) hkn
      rw [hk] at hx
      cases hx
      cases hA0
      simp only [Nat.zero_add] at hc0 hc1 hc2
      rw [ha]
      have HA := Lib.hid ha
      have HKk := Lib.hid hk
      have HR := Lib.hid hr
      have HH := Lib.hid H
      clear ha hk hr H
      have hxc := hX.cell
      have hxf := hX.frozen
      have hwl := hX.lt
      have hfz := hown.frozenAt
      obtain ⟨⟨z0, hz0c⟩, _⟩ := own_at hown (j := k * 3) (by omega)
      have i0 : (0 : Int) ≤ (k : Int) := by omega
      have i1 : (k : Int) < (n : Int) := by omega
      have hownA := hown.alloc (.cells #[.string s', .int .i64 x, .int .i64 y] 45)
      have hbwA := hbw.alloc hbw.size (.cells #[.string s', .int .i64 x, .int .i64 y] 45)
      by_cases hy : now < y
      · have dy : decide (now < y) = true := decide_eq_true hy
        by_cases hxo : x = o
        · subst hxo
          have e1 : (x == x) = true := by simp
          have HF := Lib.hid (takeR_mine HK.out HA.out HKk.out HR.out HH.out hy rfl)
          go_wp2_with fail
          have HO := Lib.hid ((own_set3 (hown.kept (gr_cell w4 w2.heap.size 2 (.int .i64 (max (now + span) y))) (.inr (by simp [Value.ownBlock]; omega))) k s x (max (now + span) y)).alloc (.cells #[.string s', .int .i64 x, .int .i64 y] 45))
          have HBS := Lib.hid ((bel_al (bel_set (bel_set (bel_set (bel_set hbw (p := ⟨w2.heap.size, 2, none⟩) (Nat.le_refl _) (.int .i64 (max (now + span) y))) (p := ⟨g, k * 3, none⟩) (by show w2.heap.size ≤ g; omega) (.string s)) (p := ⟨g, k * 3 + 1, none⟩) (by show w2.heap.size ≤ g; omega) (.int .i64 x)) (p := ⟨g, k * 3 + 2, none⟩) (by show w2.heap.size ≤ g; omega) (.int .i64 (max (now + span) y))) (.cells #[.string s', .int .i64 x, .int .i64 y] 45)))
          have hzI : SzR (l.set k (s, x, max (now + span) y)) := fun r hr => by rcases List.mem_or_eq_of_mem_set hr with h1 | rfl; exact hz r h1; exact hs
          refine (implLeasesValid_c _ _ _ _ _ (SlR.of_own HO.out) hzI).mono ?_
          rintro e w7 ⟨rfl, hb7⟩
          have hown7 := own_bel HO.out hb7
          have hbw7 := HBS.out.trans (hb7.mono HBS.out.size)
          cases hfin : leasesB (l.set k (s, x, max (now + span) y))
          · have HFN := Lib.hid (finR_no hfin)
            clear hfin
            go_wp2_with fail
            go_ret2
            rw [HF.out, HFN.out]
            exact ⟨_, _, _, rfl, World.ownsRow_nil _ _ _ _, bel_nx hb1 hbw7⟩
          · have HFN := Lib.hid (finR_yes hfin)
            clear hfin
            go_wp2_with fail
            go_ret2
            rw [HF.out, HFN.out]
            exact ⟨_, _, _, rfl, ownsRow_base hown7 (Nat.le_succ_of_le hb1.size), bel_nx hb1 hbw7⟩
        · have e1 : (x == o) = false := by simpa using hxo
          have HF := Lib.hid (takeR_other (span := span) HKk.out HR.out HH.out hy hxo)
          go_wp2_with fail
          go_ret2
          rw [HF.out]
          exact ⟨_, _, _, rfl, World.ownsRow_nil _ _ _ _, bel_nx hb1 hbwA⟩
      · have dy : decide (now < y) = false := decide_eq_false hy
        have HF := Lib.hid (takeR_old (o := o) (span := span) HK.out HA.out HKk.out HR.out HH.out hy)
        go_wp2_with fail
        have HO := Lib.hid ((own_set3 hown k s o (now + span)).alloc (.cells #[.string s', .int .i64 x, .int .i64 y] 45))
        have HBS := Lib.hid ((bel_al (bel_set (bel_set (bel_set hbw (p := ⟨g, k * 3, none⟩) (by show w2.heap.size ≤ g; omega) (.string s)) (p := ⟨g, k * 3 + 1, none⟩) (by show w2.heap.size ≤ g; omega) (.int .i64 o)) (p := ⟨g, k * 3 + 2, none⟩) (by show w2.heap.size ≤ g; omega) (.int .i64 (now + span))) (.cells #[.string s', .int .i64 x, .int .i64 y] 45)))
        have hzI : SzR (l.set k (s, o, now + span)) := fun r hr => by rcases List.mem_or_eq_of_mem_set hr with h1 | rfl; exact hz r h1; exact hs
        refine (implLeasesValid_c _ _ _ _ _ (SlR.of_own HO.out) hzI).mono ?_
        rintro e w7 ⟨rfl, hb7⟩
        have hown7 := own_bel HO.out hb7
        have hbw7 := HBS.out.trans (hb7.mono HBS.out.size)
        cases hfin : leasesB (l.set k (s, o, now + span))
        · have HFN := Lib.hid (finR_no hfin)
          clear hfin
          go_wp2_with fail
          go_ret2
          rw [HF.out, HFN.out]
          exact ⟨_, _, _, rfl, World.ownsRow_nil _ _ _ _, bel_nx hb1 hbw7⟩
        · have HFN := Lib.hid (finR_yes hfin)
          clear hfin
          go_wp2_with fail
          go_ret2
          rw [HF.out, HFN.out]
          exact ⟨_, _, _, rfl, ownsRow_base hown7 (Nat.le_succ_of_le hb1.size), bel_nx hb1 hbw7⟩
  · have HF := Lib.hid (takeR_no (l := l) (now := now) (s := s) (o := o) (span := span) (by
      cases h1 : inB o 1 99 <;> cases h2 : inB span 1 9999 <;> simp_all [takeOk]))
    have hor : o < 1 ∨ 99 < o ∨ span < 1 ∨ 9999 < span := by
      rw [inB_iff, inB_iff] at ho
      omega
    clear ho
    by_cases c1 : o < 1
    · have d1 : decide (o < 1) = true := decide_eq_true c1
      go_wp2_with fail
      go_ret2
      rw [HF.out]
      exact ⟨_, _, _, rfl, World.ownsRow_nil _ _ _ _, hb1⟩
    have d1 : decide (o < 1) = false := decide_eq_false c1
    by_cases c2 : 99 < o
    · have d2 : decide (99 < o) = true := decide_eq_true c2
      go_wp2_with fail
      go_ret2
      rw [HF.out]
      exact ⟨_, _, _, rfl, World.ownsRow_nil _ _ _ _, hb1⟩
    have d2 : decide (99 < o) = false := decide_eq_false c2
    by_cases c3 : span < 1
    · have d3 : decide (span < 1) = true := decide_eq_true c3
      go_wp2_with fail
      go_ret2
      rw [HF.out]
      exact ⟨_, _, _, rfl, World.ownsRow_nil _ _ _ _, hb1⟩
    have d3 : decide (span < 1) = false := decide_eq_false c3
    have d4 : decide (9999 < span) = true := decide_eq_true (by omega)
    go_wp2_with fail
    go_ret2
    rw [HF.out]
    exact ⟨_, _, _, rfl, World.ownsRow_nil _ _ _ _, hb1⟩

end Go.Proofs.Ythkgechljfjpdaa
