/- A lease is taken: the walk over the reference's LeaseTake. -/
import Derived.Test.YthkgechljfjpdaaLeaseTakePlain2
import Derived.Test.YthkgechljfjpdaaLeaseTake
namespace Go.Proofs.Ythkgechljfjpdaa
open Go.RowKit

theorem szR_snoc {l : List R3} {s : ByteArray} {x y : Int} (h : SzR l) (hs : s.size ≤ 9223372036854775807) : SzR (l ++ [(s, x, y)]) := by
  intro r hr
  rcases List.mem_append.1 hr with h1 | h1
  · exact h r h1
  · simp at h1; subst h1; exact hs
theorem ltS_other {a b : ByteArray} (h : a ≠ b) (h1 : ltS b a = false) : ltS a b = true := by
  cases hc : ltS a b
  · exact absurd (ltS_total hc h1) h
  · rfl
theorem own_ne {w : World} {B : Nat} {e : TypeId} {k n : Nat} {v : Value} {xs : List Value} {g : Nat} (hg : g < B) (h : w.ownsRow B e k v n xs) : v.ownBlock = none ∨ v.ownBlock ≠ some g := .inr (fun he => by have := (h.lt g he).1; omega)
theorem flat_one (l : List R3) (x : R3) : l.flatMap encR ++ [x].flatMap encR = (l ++ [x]).flatMap encR := by simp [List.flatMap_append]

set_option maxRecDepth 100000 in
set_option maxHeartbeats 4000000 in
theorem specLeaseTake_c (A : Option Addr) (n c : Nat) (l : List R3) (now : Int) (s : ByteArray) (o span : Int) (w : World) (h : SlR w A n c l) (hz : SzR l) (hs : s.size ≤ 9223372036854775807) : Calls Try.prog 19 #[.slice A n c, .int .i64 now, .string s, .int .i64 o, .int .i64 span] w fun e w' =>
    ∃ A' n' c', e = .returned (.tuple #[.slice A' n' c', .bool (takeR l now s o span).2]) ∧ w'.ownsRow w.heap.size 45 3 (.slice A' n' c') n' ((takeR l now s o span).1.flatMap encR) ∧ Below w.heap.size w w' := by
  have HL := Lib.hid h.len
  have hcap := h.cap
  have hmax := h.max
  go_enter Try.func19, Try.ntmps19
  go_wp2_with fail
  refine (specLeaseHas_c _ _ _ l now s _ h hz hs).mono ?_
  rintro e w3 ⟨rfl, hb1⟩
  have h := h.bel hb1
  have HNo := Lib.hid (takeR_has_no (l := l) (now := now) (s := s) (o := o) (span := span))
  have HOt := Lib.hid (takeR_has_other (l := l) (now := now) (s := s) (o := o) (span := span))
  have HOk := Lib.hid (takeOk_has (l := l) (now := now) (s := s) (o := o) (span := span))
  have HFo := Lib.hid (takeR_fold (l := l) (now := now) (s := s) (o := o) (span := span))
  obtain ⟨has, hhas⟩ : ∃ q, hasF l now s = q := ⟨_, rfl⟩
  rw [hhas] at HNo HOt HOk HFo ⊢
  clear hhas
  by_cases c0 : has < 0
  · have d0 : decide (has < 0) = true := decide_eq_true c0
    have HF := Lib.hid (HNo.out c0)
    go_wp2_with fail
    go_ret2
    rw [HF.out]
    exact ⟨_, _, _, rfl, ownsRow_base (recs_new w3) hb1.size, bel_al hb1 _⟩
  have d0 : decide (has < 0) = false := decide_eq_false c0
  go_wp2_with fail
  obtain ⟨b1, h1⟩ : ∃ b, inB o 1 99 = b := ⟨_, rfl⟩
  refine (l6In_b o 1 99 b1 _ h1).mono ?_
  rintro e w3 ⟨rfl, rfl⟩
  have H1 := Lib.hid h1
  clear h1
  cases b1
  · have HF := Lib.hid (takeR_no (l := l) (now := now) (s := s) (o := o) (span := span) (by simp [takeOk, H1.out]))
    go_wp2_with fail
    go_ret2
    rw [HF.out]
    exact ⟨_, _, _, rfl, ownsRow_base (recs_new w3) hb1.size, bel_al hb1 _⟩
  go_wp2_with fail
  obtain ⟨b2, h2⟩ : ∃ b, inB span 1 9999 = b := ⟨_, rfl⟩
  refine (l6In_b span 1 9999 b2 _ h2).mono ?_
  rintro e w3 ⟨rfl, rfl⟩
  have H2 := Lib.hid h2
  clear h2
  cases b2
  · have HF := Lib.hid (takeR_no (l := l) (now := now) (s := s) (o := o) (span := span) (by simp [takeOk, H2.out]))
    go_wp2_with fail
    go_ret2
    rw [HF.out]
    exact ⟨_, _, _, rfl, ownsRow_base (recs_new w3) hb1.size, bel_al hb1 _⟩
  have hok := HOk.out (by omega) H1.out H2.out
  obtain ⟨hvl, htl, _, _, _⟩ := takeOk_parts hok
  obtain ⟨o1, o2⟩ := inB_iff.1 H1.out
  obtain ⟨s1, s2⟩ := inB_iff.1 H2.out
  obtain ⟨t1, t2⟩ := timeB_iff.1 htl
  have hn8 : n ≤ 8 := by rw [← HL.out]; exact leases_len hvl
  have HFo := Lib.hid (HFo.out hok)
  clear hok hvl htl
  by_cases hne : 0 < has ∧ has ≠ o
  · obtain ⟨n1, n2⟩ := hne
    have d1 : decide (0 < has) = true := decide_eq_true n1
    have d2 : (has == o) = false := by simpa using n2
    have HF := Lib.hid (HOt.out n1 n2)
    clear n2
    go_wp2_with fail
    go_ret2
    rw [HF.out]
    exact ⟨_, _, _, rfl, ownsRow_base (recs_new w3) hb1.size, bel_al hb1 _⟩
  have HF := Lib.hid (HFo.out hne)
  have hq : has = 0 ∨ has = o := by
    by_cases e : has = o
    · exact .inr e
    · exact .inl (by
        by_cases a : 0 < has
        · exact absurd ⟨a, e⟩ hne
        · omega)
  clear hne
  obtain ⟨ii, hi0, hz0, hz1, hz2⟩ := info_parts rec_info
  have hXl : w3.heap.size < (w3.alloc (.cells #[.string s, .int .i64 o, .int .i64 (now + span)] 45)).heap.size := by simp
  have hR := recs_new (w3.alloc (.cells #[.string s, .int .i64 o, .int .i64 (now + span)] 45))
  have hX := (Blk.new w3 45 #[.string s, .int .i64 o, .int .i64 (now + span)]).al (.cells #[] 45)
  rw [show (w3.alloc (.cells #[.string s, .int .i64 o, .int .i64 (now + span)] 45)).heap.size = w3.heap.size + 1 by simp] at hR
  by_cases hp : 0 < has
  · obtain rfl : o = has := by
      rcases hq with e | e
      · omega
      · exact e.symm
    have d1 : decide (0 < o) = true := decide_eq_true hp
    have d2 : (o == o) = true := by simp
    go_wp2_with fail
    go_loopw [14, 15, 16] (fun v dn i wr => ∃ (k m : Nat) (out : List R3) (done : Bool) (u : Int) (Av : Option Addr) (cv : Nat), k ≤ n ∧ i = .int .i64 k ∧ v = .slice Av m cv ∧ dn = .bool done ∧ m ≤ 2 * k ∧ Hid (foldR s o o (now + span) l k = (out, done, u)) ∧ wr.ownsRow (w3.heap.size + 1) 45 3 (.slice Av m cv) m (out.flatMap encR) ∧ Blk wr w3.heap.size 45 #[.string s, .int .i64 o, .int .i64 u] ∧ Below w3.heap.size w3 wr ∧ Hid (SzR out)) (fun _ _ i _ => n - (intOf i).toNat)
    case atStart =>
      exact ⟨0, 0, [], false, now + span, _, _, Nat.zero_le _, rfl, rfl, rfl, Nat.le_refl _, Lib.hid (foldR_zero _ _ _ _ _), hR, hX, bel_al (bel_al (bel_refl _) _) _, Lib.hid (fun r hr => by cases hr)⟩
    case round =>
      obtain ⟨k, m, out, done, u, Av, cv, hk, rfl, rfl, rfl, hm, HFK, ho, hx, hbr, HZO⟩ := hrel
      have hxc := hx.cell
      have hxf := hx.frozen
      have hxl := hx.lt
      by_cases hlt : k < n
      · obtain ⟨b, off, s', x, y, rfl, hx', hc0, hc1, hc2⟩ := SlR.get (h.bel hbr) hlt
        have HX := Lib.hid hx'
        clear hx'
        have i0 : (0 : Int) ≤ (k : Int) := by omega
        have i1 : (k : Int) < (n : Int) := by omega
        by_cases hss : s' = s
        · have e1 : (s'.toList == s.toList) = true := beqS_yes hss
          have HS := Lib.hid hss
          clear hss
          go_wp2_with fail
          go_region
          have hx2 : Blk (wr.setCell ⟨w3.heap.size, 2, none⟩ (.int .i64 (max u y))) w3.heap.size 45 #[.string s, .int .i64 o, .int .i64 (max u y)] := by simpa using hx.set_ 2 (.int .i64 (max u y))
          have ho2 := ho.kept (gr_cell wr w3.heap.size 2 (.int .i64 (max u y))) (own_ne (by omega) ho)
          have hxc := hx2.cell
          have hNew : Blk ((wr.setCell ⟨w3.heap.size, 2, none⟩ (.int .i64 (max u y))).alloc (.cells #[.string s, .int .i64 o, .int .i64 (max u y)] 45)).drew wr.heap.size 45 #[.string s, .int .i64 o, .int .i64 (max u y)] := by
            have := Blk.new (wr.setCell ⟨w3.heap.size, 2, none⟩ (.int .i64 (max u y))) 45 #[.string s, .int .i64 o, .int .i64 (max u y)]
            simp only [World.size_setCell] at this
            exact this
          go_wp2_with (at_builtin; refine wpList_append_sl (enc := encR) rfl _ _ 23 rfl (w3.heap.size + 1) 45 ii (.agg #[.string ByteArray.empty, .int .i64 0, .int .i64 0]) 3 32 Try.underlying23 hi0 hz0 hz1 hz2 rfl (by decide) (.slice Av m cv) (m) ((out).flatMap encR) rfl (own_dr (ho2.alloc _)) (some ⟨wr.heap.size, 0, none⟩) 1 1 [(s, o, max u y)] rfl (fun _ => rfl) (Sl.one hNew) one_R (by unfold maxLen; omega) (by omega) (by have := hxl; simp; omega) ?_; intro v5 w5 ho5 hg5 hl5; obtain ⟨Av5, cv5, rfl⟩ := own_form ho5; rw [flat_one] at ho5)
          go_roundw
          case rel =>
            exact ⟨k + 1, m + 1, out ++ [(s, o, max u y)], true, max u y, _, _, by omega, by go_num, rfl, rfl, by omega, Lib.hid ((foldR_step HX.out).trans (by rw [HFK.out, step_same HS.out]; simp)), ho5, ((hx2.al _).dr).gr hg5 (fun e => by have := (ho.lt _ e.symm).1; omega), ((bel_al (bel_set hbr (p := ⟨w3.heap.size, 2, none⟩) (Nat.le_refl _) _) _).drew).grown hg5 ((bel_al (bel_set hbr (p := ⟨w3.heap.size, 2, none⟩) (Nat.le_refl _) _) _).drew).size (fun j hj => by have := (ho.lt j hj).1; omega), Lib.hid (szR_snoc HZO.out hs)⟩
          case measure => simp [intOf]; omega
        · have e1 : (s'.toList == s.toList) = false := beqS_no hss
          have HS := Lib.hid hss
          clear hss
          have hrel : ∀ d : Bool, True := fun _ => trivial
          clear hrel
          cases done
          · cases hc : ltS s s'
            · have e3 : Op.bytesLess s'.toList s.toList = true := ltS_other HS.out hc
              have HC := Lib.hid hc
              clear hc
              go_wp2_with (at_builtin; refine wpList_append_sl (enc := encR) rfl _ _ 23 rfl (w3.heap.size + 1) 45 ii (.agg #[.string ByteArray.empty, .int .i64 0, .int .i64 0]) 3 32 Try.underlying23 hi0 hz0 hz1 hz2 rfl (by decide) (.slice Av m cv) (m) ((out).flatMap encR) rfl (ho.alloc _) (some ⟨wr.heap.size, 0, none⟩) 1 1 [(s', x, y)] rfl (fun _ => rfl) (Sl.one (Blk.new _ _ _)) one_R (by unfold maxLen; omega) (by omega) (by have := hxl; simp; omega) ?_; intro v5 w5 ho5 hg5 hl5; obtain ⟨Av5, cv5, rfl⟩ := own_form ho5; rw [flat_one] at ho5)
              go_roundw
              case rel =>
                exact ⟨k + 1, m + 1, out ++ [(s', x, y)], false, u, _, _, by omega, by go_num, rfl, rfl, by omega, Lib.hid ((foldR_step HX.out).trans (by rw [HFK.out, step_on HS.out (.inr HC.out)])), ho5, (hx.al _).gr hg5 (fun e => by have := (ho.lt _ e.symm).1; omega), (bel_al hbr _).grown hg5 (bel_al hbr _).size (fun j hj => by have := (ho.lt j hj).1; omega), Lib.hid (szR_snoc HZO.out (sz_at hz HX.out))⟩
              case measure => simp [intOf]; omega
            · have e3 : Op.bytesLess s'.toList s.toList = false := ltS_asymm hc
              have HC := Lib.hid hc
              clear hc
              go_wp2_with (first
                | (at_builtin; refine wpList_append_sl (enc := encR) rfl _ _ 23 rfl (w3.heap.size + 1) 45 ii (.agg #[.string ByteArray.empty, .int .i64 0, .int .i64 0]) 3 32 Try.underlying23 hi0 hz0 hz1 hz2 rfl (by decide) (.slice Av5 (m + 1) cv5) (m + 1) ((out ++ [(s, o, u)]).flatMap encR) rfl (ho5.alloc _) (some ⟨w5.heap.size, 0, none⟩) 1 1 [(s', x, y)] rfl (fun _ => rfl) (Sl.one (Blk.new _ _ _)) one_R (by unfold maxLen; omega) (by omega) (by have := hx5.lt; simp; omega) ?_; intro v6 w6 ho6 hg6 hl6; obtain ⟨Av6, cv6, rfl⟩ := own_form ho6; rw [flat_one] at ho6)
                | (at_builtin; refine wpList_append_sl (enc := encR) rfl _ _ 23 rfl (w3.heap.size + 1) 45 ii (.agg #[.string ByteArray.empty, .int .i64 0, .int .i64 0]) 3 32 Try.underlying23 hi0 hz0 hz1 hz2 rfl (by decide) (.slice Av m cv) (m) ((out).flatMap encR) rfl (ho.alloc _) (some ⟨wr.heap.size, 0, none⟩) 1 1 [(s, o, u)] rfl (fun _ => rfl) (Sl.one (Blk.new _ _ _)) one_R (by unfold maxLen; omega) (by omega) (by have := hxl; simp; omega) ?_; intro v5 w5 ho5 hg5 hl5; obtain ⟨Av5, cv5, rfl⟩ := own_form ho5; rw [flat_one] at ho5; have hx5 := (hx.al (.cells #[.string s, .int .i64 o, .int .i64 u] 45)).gr hg5 (fun e => by have := (ho.lt _ e.symm).1; omega); have hb5 : Below w3.heap.size w3 w5 := (bel_al hbr _).grown hg5 (bel_al hbr _).size (fun j hj => by have := (ho.lt j hj).1; omega); obtain ⟨b2, off2, s2, x2, y2, hA2, hx2, q0, q1, q2⟩ := SlR.get (h.bel hb5) hlt; cases hA2; rw [HX.out] at hx2; cases hx2))
              go_roundw
              case rel =>
                exact ⟨k + 1, m + 2, out ++ [(s, o, u)] ++ [(s', x, y)], true, u, _, _, by omega, by go_num, rfl, rfl, by omega, Lib.hid ((foldR_step HX.out).trans (by rw [HFK.out, step_in HS.out rfl HC.out]; simp)), ho6, (hx5.al _).gr hg6 (fun e => by have := (ho5.lt _ e.symm).1; omega), (bel_al hb5 _).grown hg6 (bel_al hb5 _).size (fun j hj => by have := (ho5.lt j hj).1; omega), Lib.hid (szR_snoc (szR_snoc HZO.out hs) (sz_at hz HX.out))⟩
              case measure => simp [intOf]; omega
          · go_wp2_with (at_builtin; refine wpList_append_sl (enc := encR) rfl _ _ 23 rfl (w3.heap.size + 1) 45 ii (.agg #[.string ByteArray.empty, .int .i64 0, .int .i64 0]) 3 32 Try.underlying23 hi0 hz0 hz1 hz2 rfl (by decide) (.slice Av m cv) (m) ((out).flatMap encR) rfl (ho.alloc _) (some ⟨wr.heap.size, 0, none⟩) 1 1 [(s', x, y)] rfl (fun _ => rfl) (Sl.one (Blk.new _ _ _)) one_R (by unfold maxLen; omega) (by omega) (by have := hxl; simp; omega) ?_; intro v5 w5 ho5 hg5 hl5; obtain ⟨Av5, cv5, rfl⟩ := own_form ho5; rw [flat_one] at ho5)
            go_roundw
            case rel =>
              exact ⟨k + 1, m + 1, out ++ [(s', x, y)], true, u, _, _, by omega, by go_num, rfl, rfl, by omega, Lib.hid ((foldR_step HX.out).trans (by rw [HFK.out, step_on HS.out (.inl rfl)])), ho5, (hx.al _).gr hg5 (fun e => by have := (ho.lt _ e.symm).1; omega), (bel_al hbr _).grown hg5 (bel_al hbr _).size (fun j hj => by have := (ho.lt j hj).1; omega), Lib.hid (szR_snoc HZO.out (sz_at hz HX.out))⟩
            case measure => simp [intOf]; omega
      · obtain rfl : k = n := by omega
        have hll := HL.out
        have hfo := HFK.out
        cases done
        · have hout : outR s o (foldR s o o (now + span) l l.length) = out ++ [(s, o, u)] := by rw [hll, hfo]; rfl
          have HO2 := Lib.hid (by rw [hout] at HF; exact HF.out)
          clear hll hfo hout
          go_wp2_with (at_builtin; refine wpList_append_sl (enc := encR) rfl _ _ 23 rfl (w3.heap.size + 1) 45 ii (.agg #[.string ByteArray.empty, .int .i64 0, .int .i64 0]) 3 32 Try.underlying23 hi0 hz0 hz1 hz2 rfl (by decide) (.slice Av m cv) (m) ((out).flatMap encR) rfl (ho.alloc _) (some ⟨wr.heap.size, 0, none⟩) 1 1 [(s, o, u)] rfl (fun _ => rfl) (Sl.one (Blk.new _ _ _)) one_R (by unfold maxLen; omega) (by omega) (by have := hxl; simp; omega) ?_; intro v5 w5 ho5 hg5 hl5; obtain ⟨Av5, cv5, rfl⟩ := own_form ho5; rw [flat_one] at ho5)
          have hb5 : Below w3.heap.size w3 w5 := (bel_al hbr _).grown hg5 (bel_al hbr _).size (fun j hj => by have := (ho.lt j hj).1; omega)
          refine (specLeasesValid_c _ _ _ _ _ (SlR.of_own ho5) (szR_snoc HZO.out hs)).mono ?_
          rintro e w7 ⟨rfl, hb7⟩
          have ho7 := own_bel ho5 hb7
          have hbE := bel_nx hb5 hb7
          cases hfin : leasesB (out ++ [(s, o, u)])
          · have HFN := Lib.hid (finR_no hfin)
            clear hfin
            go_wp2_with fail
            go_ret2
            rw [HO2.out, HFN.out]
            exact ⟨_, _, _, rfl, ownsRow_base (recs_new w7) (bel_nx hb1 hbE).size, bel_al (bel_nx hb1 hbE) _⟩
          · have HFN := Lib.hid (finR_yes hfin)
            clear hfin
            go_wp2_with fail
            go_ret2
            rw [HO2.out, HFN.out]
            exact ⟨_, _, _, rfl, ownsRow_base ho7 (Nat.le_succ_of_le hb1.size), bel_nx hb1 hbE⟩
        · have hout : outR s o (foldR s o o (now + span) l l.length) = out := by rw [hll, hfo]; rfl
          have HO2 := Lib.hid (by rw [hout] at HF; exact HF.out)
          clear hll hfo hout
          go_wp2_with fail
          refine (specLeasesValid_c _ _ _ _ _ (SlR.of_own ho) HZO.out).mono ?_
          rintro e w7 ⟨rfl, hb7⟩
          have ho7 := own_bel ho hb7
          have hbE := bel_nx hbr hb7
          cases hfin : leasesB out
          · have HFN := Lib.hid (finR_no hfin)
            clear hfin
            go_wp2_with fail
            go_ret2
            rw [HO2.out, HFN.out]
            exact ⟨_, _, _, rfl, ownsRow_base (recs_new w7) (bel_nx hb1 hbE).size, bel_al (bel_nx hb1 hbE) _⟩
          · have HFN := Lib.hid (finR_yes hfin)
            clear hfin
            go_wp2_with fail
            go_ret2
            rw [HO2.out, HFN.out]
            exact ⟨_, _, _, rfl, ownsRow_base ho7 (Nat.le_succ_of_le hb1.size), bel_nx hb1 hbE⟩
  · obtain rfl : has = 0 := by
      rcases hq with e | e
      · exact e
      · omega
    have d2 : ((0 : Int) == o) = false := by simp; omega
    have hne0 : ¬ (0 : Int) = o := by omega
    have HN0 := Lib.hid hne0
    clear hne0
    go_wp2_with fail
    go_loopw [14, 15, 16] (fun v dn i wr => ∃ (k m : Nat) (out : List R3) (done : Bool) (u : Int) (Av : Option Addr) (cv : Nat), k ≤ n ∧ i = .int .i64 k ∧ v = .slice Av m cv ∧ dn = .bool done ∧ m ≤ 2 * k ∧ Hid (foldR s o (0 : Int) (now + span) l k = (out, done, u)) ∧ wr.ownsRow (w3.heap.size + 1) 45 3 (.slice Av m cv) m (out.flatMap encR) ∧ Blk wr w3.heap.size 45 #[.string s, .int .i64 o, .int .i64 u] ∧ Below w3.heap.size w3 wr ∧ Hid (SzR out)) (fun _ _ i _ => n - (intOf i).toNat)
    case atStart =>
      exact ⟨0, 0, [], false, now + span, _, _, Nat.zero_le _, rfl, rfl, rfl, Nat.le_refl _, Lib.hid (foldR_zero _ _ _ _ _), hR, hX, bel_al (bel_al (bel_refl _) _) _, Lib.hid (fun r hr => by cases hr)⟩
    case round =>
      obtain ⟨k, m, out, done, u, Av, cv, hk, rfl, rfl, rfl, hm, HFK, ho, hx, hbr, HZO⟩ := hrel
      have hxc := hx.cell
      have hxf := hx.frozen
      have hxl := hx.lt
      by_cases hlt : k < n
      · obtain ⟨b, off, s', x, y, rfl, hx', hc0, hc1, hc2⟩ := SlR.get (h.bel hbr) hlt
        have HX := Lib.hid hx'
        clear hx'
        have i0 : (0 : Int) ≤ (k : Int) := by omega
        have i1 : (k : Int) < (n : Int) := by omega
        by_cases hss : s' = s
        · have e1 : (s'.toList == s.toList) = true := beqS_yes hss
          have HS := Lib.hid hss
          clear hss
          go_wp2_with (at_builtin; refine wpList_append_sl (enc := encR) rfl _ _ 23 rfl (w3.heap.size + 1) 45 ii (.agg #[.string ByteArray.empty, .int .i64 0, .int .i64 0]) 3 32 Try.underlying23 hi0 hz0 hz1 hz2 rfl (by decide) (.slice Av m cv) (m) ((out).flatMap encR) rfl (ho.alloc _) (some ⟨wr.heap.size, 0, none⟩) 1 1 [(s, o, u)] rfl (fun _ => rfl) (Sl.one (Blk.new _ _ _)) one_R (by unfold maxLen; omega) (by omega) (by have := hxl; simp; omega) ?_; intro v5 w5 ho5 hg5 hl5; obtain ⟨Av5, cv5, rfl⟩ := own_form ho5; rw [flat_one] at ho5)
          go_roundw
          case rel =>
            exact ⟨k + 1, m + 1, out ++ [(s, o, u)], true, u, _, _, by omega, by go_num, rfl, rfl, by omega, Lib.hid ((foldR_step HX.out).trans (by rw [HFK.out, step_same HS.out]; simp [HN0.out])), ho5, (hx.al _).gr hg5 (fun e => by have := (ho.lt _ e.symm).1; omega), (bel_al hbr _).grown hg5 (bel_al hbr _).size (fun j hj => by have := (ho.lt j hj).1; omega), Lib.hid (szR_snoc HZO.out hs)⟩
          case measure => simp [intOf]; omega
        · have e1 : (s'.toList == s.toList) = false := beqS_no hss
          have HS := Lib.hid hss
          clear hss
          have hrel : ∀ d : Bool, True := fun _ => trivial
          clear hrel
          cases done
          · cases hc : ltS s s'
            · have e3 : Op.bytesLess s'.toList s.toList = true := ltS_other HS.out hc
              have HC := Lib.hid hc
              clear hc
              go_wp2_with (at_builtin; refine wpList_append_sl (enc := encR) rfl _ _ 23 rfl (w3.heap.size + 1) 45 ii (.agg #[.string ByteArray.empty, .int .i64 0, .int .i64 0]) 3 32 Try.underlying23 hi0 hz0 hz1 hz2 rfl (by decide) (.slice Av m cv) (m) ((out).flatMap encR) rfl (ho.alloc _) (some ⟨wr.heap.size, 0, none⟩) 1 1 [(s', x, y)] rfl (fun _ => rfl) (Sl.one (Blk.new _ _ _)) one_R (by unfold maxLen; omega) (by omega) (by have := hxl; simp; omega) ?_; intro v5 w5 ho5 hg5 hl5; obtain ⟨Av5, cv5, rfl⟩ := own_form ho5; rw [flat_one] at ho5)
              go_roundw
              case rel =>
                exact ⟨k + 1, m + 1, out ++ [(s', x, y)], false, u, _, _, by omega, by go_num, rfl, rfl, by omega, Lib.hid ((foldR_step HX.out).trans (by rw [HFK.out, step_on HS.out (.inr HC.out)])), ho5, (hx.al _).gr hg5 (fun e => by have := (ho.lt _ e.symm).1; omega), (bel_al hbr _).grown hg5 (bel_al hbr _).size (fun j hj => by have := (ho.lt j hj).1; omega), Lib.hid (szR_snoc HZO.out (sz_at hz HX.out))⟩
              case measure => simp [intOf]; omega
            · have e3 : Op.bytesLess s'.toList s.toList = false := ltS_asymm hc
              have HC := Lib.hid hc
              clear hc
              go_wp2_with (first
                | (at_builtin; refine wpList_append_sl (enc := encR) rfl _ _ 23 rfl (w3.heap.size + 1) 45 ii (.agg #[.string ByteArray.empty, .int .i64 0, .int .i64 0]) 3 32 Try.underlying23 hi0 hz0 hz1 hz2 rfl (by decide) (.slice Av5 (m + 1) cv5) (m + 1) ((out ++ [(s, o, u)]).flatMap encR) rfl (ho5.alloc _) (some ⟨w5.heap.size, 0, none⟩) 1 1 [(s', x, y)] rfl (fun _ => rfl) (Sl.one (Blk.new _ _ _)) one_R (by unfold maxLen; omega) (by omega) (by have := hx5.lt; simp; omega) ?_; intro v6 w6 ho6 hg6 hl6; obtain ⟨Av6, cv6, rfl⟩ := own_form ho6; rw [flat_one] at ho6)
                | (at_builtin; refine wpList_append_sl (enc := encR) rfl _ _ 23 rfl (w3.heap.size + 1) 45 ii (.agg #[.string ByteArray.empty, .int .i64 0, .int .i64 0]) 3 32 Try.underlying23 hi0 hz0 hz1 hz2 rfl (by decide) (.slice Av m cv) (m) ((out).flatMap encR) rfl (ho.alloc _) (some ⟨wr.heap.size, 0, none⟩) 1 1 [(s, o, u)] rfl (fun _ => rfl) (Sl.one (Blk.new _ _ _)) one_R (by unfold maxLen; omega) (by omega) (by have := hxl; simp; omega) ?_; intro v5 w5 ho5 hg5 hl5; obtain ⟨Av5, cv5, rfl⟩ := own_form ho5; rw [flat_one] at ho5; have hx5 := (hx.al (.cells #[.string s, .int .i64 o, .int .i64 u] 45)).gr hg5 (fun e => by have := (ho.lt _ e.symm).1; omega); have hb5 : Below w3.heap.size w3 w5 := (bel_al hbr _).grown hg5 (bel_al hbr _).size (fun j hj => by have := (ho.lt j hj).1; omega); obtain ⟨b2, off2, s2, x2, y2, hA2, hx2, q0, q1, q2⟩ := SlR.get (h.bel hb5) hlt; cases hA2; rw [HX.out] at hx2; cases hx2))
              go_roundw
              case rel =>
                exact ⟨k + 1, m + 2, out ++ [(s, o, u)] ++ [(s', x, y)], true, u, _, _, by omega, by go_num, rfl, rfl, by omega, Lib.hid ((foldR_step HX.out).trans (by rw [HFK.out, step_in HS.out rfl HC.out]; simp)), ho6, (hx5.al _).gr hg6 (fun e => by have := (ho5.lt _ e.symm).1; omega), (bel_al hb5 _).grown hg6 (bel_al hb5 _).size (fun j hj => by have := (ho5.lt j hj).1; omega), Lib.hid (szR_snoc (szR_snoc HZO.out hs) (sz_at hz HX.out))⟩
              case measure => simp [intOf]; omega
          · go_wp2_with (at_builtin; refine wpList_append_sl (enc := encR) rfl _ _ 23 rfl (w3.heap.size + 1) 45 ii (.agg #[.string ByteArray.empty, .int .i64 0, .int .i64 0]) 3 32 Try.underlying23 hi0 hz0 hz1 hz2 rfl (by decide) (.slice Av m cv) (m) ((out).flatMap encR) rfl (ho.alloc _) (some ⟨wr.heap.size, 0, none⟩) 1 1 [(s', x, y)] rfl (fun _ => rfl) (Sl.one (Blk.new _ _ _)) one_R (by unfold maxLen; omega) (by omega) (by have := hxl; simp; omega) ?_; intro v5 w5 ho5 hg5 hl5; obtain ⟨Av5, cv5, rfl⟩ := own_form ho5; rw [flat_one] at ho5)
            go_roundw
            case rel =>
              exact ⟨k + 1, m + 1, out ++ [(s', x, y)], true, u, _, _, by omega, by go_num, rfl, rfl, by omega, Lib.hid ((foldR_step HX.out).trans (by rw [HFK.out, step_on HS.out (.inl rfl)])), ho5, (hx.al _).gr hg5 (fun e => by have := (ho.lt _ e.symm).1; omega), (bel_al hbr _).grown hg5 (bel_al hbr _).size (fun j hj => by have := (ho.lt j hj).1; omega), Lib.hid (szR_snoc HZO.out (sz_at hz HX.out))⟩
            case measure => simp [intOf]; omega
      · obtain rfl : k = n := by omega
        have hll := HL.out
        have hfo := HFK.out
        cases done
        · have hout : outR s o (foldR s o (0 : Int) (now + span) l l.length) = out ++ [(s, o, u)] := by rw [hll, hfo]; rfl
          have HO2 := Lib.hid (by rw [hout] at HF; exact HF.out)
          clear hll hfo hout
          go_wp2_with (at_builtin; refine wpList_append_sl (enc := encR) rfl _ _ 23 rfl (w3.heap.size + 1) 45 ii (.agg #[.string ByteArray.empty, .int .i64 0, .int .i64 0]) 3 32 Try.underlying23 hi0 hz0 hz1 hz2 rfl (by decide) (.slice Av m cv) (m) ((out).flatMap encR) rfl (ho.alloc _) (some ⟨wr.heap.size, 0, none⟩) 1 1 [(s, o, u)] rfl (fun _ => rfl) (Sl.one (Blk.new _ _ _)) one_R (by unfold maxLen; omega) (by omega) (by have := hxl; simp; omega) ?_; intro v5 w5 ho5 hg5 hl5; obtain ⟨Av5, cv5, rfl⟩ := own_form ho5; rw [flat_one] at ho5)
          have hb5 : Below w3.heap.size w3 w5 := (bel_al hbr _).grown hg5 (bel_al hbr _).size (fun j hj => by have := (ho.lt j hj).1; omega)
          refine (specLeasesValid_c _ _ _ _ _ (SlR.of_own ho5) (szR_snoc HZO.out hs)).mono ?_
          rintro e w7 ⟨rfl, hb7⟩
          have ho7 := own_bel ho5 hb7
          have hbE := bel_nx hb5 hb7
          cases hfin : leasesB (out ++ [(s, o, u)])
          · have HFN := Lib.hid (finR_no hfin)
            clear hfin
            go_wp2_with fail
            go_ret2
            rw [HO2.out, HFN.out]
            exact ⟨_, _, _, rfl, ownsRow_base (recs_new w7) (bel_nx hb1 hbE).size, bel_al (bel_nx hb1 hbE) _⟩
          · have HFN := Lib.hid (finR_yes hfin)
            clear hfin
            go_wp2_with fail
            go_ret2
            rw [HO2.out, HFN.out]
            exact ⟨_, _, _, rfl, ownsRow_base ho7 (Nat.le_succ_of_le hb1.size), bel_nx hb1 hbE⟩
        · have hout : outR s o (foldR s o (0 : Int) (now + span) l l.length) = out := by rw [hll, hfo]; rfl
          have HO2 := Lib.hid (by rw [hout] at HF; exact HF.out)
          clear hll hfo hout
          go_wp2_with fail
          refine (specLeasesValid_c _ _ _ _ _ (SlR.of_own ho) HZO.out).mono ?_
          rintro e w7 ⟨rfl, hb7⟩
          have ho7 := own_bel ho hb7
          have hbE := bel_nx hbr hb7
          cases hfin : leasesB out
          · have HFN := Lib.hid (finR_no hfin)
            clear hfin
            go_wp2_with fail
            go_ret2
            rw [HO2.out, HFN.out]
            exact ⟨_, _, _, rfl, ownsRow_base (recs_new w7) (bel_nx hb1 hbE).size, bel_al (bel_nx hb1 hbE) _⟩
          · have HFN := Lib.hid (finR_yes hfin)
            clear hfin
            go_wp2_with fail
            go_ret2
            rw [HO2.out, HFN.out]
            exact ⟨_, _, _, rfl, ownsRow_base ho7 (Nat.le_succ_of_le hb1.size), bel_nx hb1 hbE⟩

end Go.Proofs.Ythkgechljfjpdaa
