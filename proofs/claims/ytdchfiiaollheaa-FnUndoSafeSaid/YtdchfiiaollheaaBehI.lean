/- What lies behind a step, by the program: FlowBehind. -/
import Derived.Test.YtdchfiiaollheaaBehPlain2
import Derived.Test.YtdchfiiaollheaaFlowFind
import Derived.Deep.RegionHeld3
import Derived.Deep.Cut
import Derived.Deep.Light
namespace Go.Proofs.Ytdchfiiaollheaa
open Go.RowKit

theorem filt_in {li : List ByteArray} {P : ByteArray → Bool} {k : Nat} {x : ByteArray} (h : li[k]? = some x) (hp : P x = true) : (li.take (k + 1)).filter P = (li.take k).filter P ++ [x] := by
  rw [take_snocG h, List.filter_append]; simp [hp]
theorem filt_out {li : List ByteArray} {P : ByteArray → Bool} {k : Nat} {x : ByteArray} (h : li[k]? = some x) (hp : P x = false) : (li.take (k + 1)).filter P = (li.take k).filter P := by
  rw [take_snocG h, List.filter_append]; simp [hp]
theorem ord_at {v : Int} {l : List Stp} (hf : flowB v l = true) {i : Nat} {t : ByteArray} (h : (orderP l)[i]? = some t) : ∃ (k : Nat) (af : List ByteArray) (u : Bool), atS (namesP l) t = (k : Int) ∧ k < l.length ∧ l[k]? = some ⟨t, af, u⟩ ∧ af.length ≤ 4 := by
  have hm := ((ord_of hf).names t).1 (List.mem_of_getElem? h)
  obtain ⟨k, af, u, h1, h2, h3, _⟩ := atP hm
  have := (stepsB_iff.1 (flowB_iff.1 hf).2.2.2.1 _ (List.mem_of_getElem? h3)).1
  simp only [stepB, Bool.and_eq_true, decide_eq_true_iff] at this
  exact ⟨k, af, u, h1, h2, h3, this.1.1.2⟩

set_option maxRecDepth 20000 in
set_option maxHeartbeats 8000000 in
theorem implFlowBehind_c (v : Int) (A : Option Addr) (n c : Nat) (l : List Stp) (s : ByteArray) (w : World) (h : SlP w A n c l) (hz : SzP l) (hss : s.size ≤ 9223372036854775807) : Calls Try.prog 54 #[.agg #[.int .i64 v, .slice A n c], .string s] w fun e w' =>
    ∃ (D : Option Addr) (dn dc : Nat) (m : List ByteArray), e = .returned (.slice D dn dc) ∧ w'.ownsRow w.heap.size 9 1 (.slice D dn dc) dn (m.map Value.string) ∧ IsBeh v l s m ∧ Below w.heap.size w w' := by
  obtain ⟨i0, hi0, hz0, hz1, hz2⟩ := info_parts str_info
  have HL := Lib.hid h.len
  have hcap := h.cap
  have hmax := h.max
  have hmm := @run_makeMap Try.prog
  have kf := Blk.new w 25 #[.int .i64 v, .slice A n c]
  have hW := bel_al (bel_refl w) (.cells #[.int .i64 v, .slice A n c] 25)
  go_enter Try.func54, Try.ntmps54
  go_wp2_with fail
  refine (implFlowValid_c v A n c l _ (h.bel hW) hz).mono ?_
  rintro e w1 ⟨rfl, hb1⟩
  have kf1 := kf.bel hb1
  have hW1 := bel_nx hW hb1
  have cf1 := kf1.cell
  clear kf
  cases hv : flowB v l
  · have HF := Lib.hid (isBeh_nil (s := s) (fun x => behB_no (s := s) (x := x) hv))
    clear hv
    go_wp2_with fail
    go_ret
    exact ⟨none, 0, 0, [], rfl, World.ownsRow_nil _ _ _ _, HF.out, hW1⟩
  have HV := Lib.hid hv
  have hn8 : n ≤ 8 := by rw [← HL.out]; exact (flowB_iff.1 hv).2.1.2
  clear hv
  rcases atS_cases (namesP l) s with ⟨ha, hnm⟩ | ⟨k0, ha, _, _⟩
  · have HF := Lib.hid (isBeh_nil (v := v) (s := s) (fun x => behB_at (x := x) hnm))
    have HA := Lib.hid ha
    clear ha hnm
    go_wp2_with fail
    refine (flowAt_z v A n c l s (-1) _ (h.bel hW1) HA.out).mono ?_
    rintro e w2 ⟨rfl, hb2⟩
    go_wp2_with fail
    go_ret
    exact ⟨none, 0, 0, [], rfl, World.ownsRow_nil _ _ _ _, HF.out, bel_nx hW1 hb2⟩
  have HA := Lib.hid ha
  have dk : decide ((k0 : Int) < 0) = false := by simp
  clear ha
  go_wp2_with fail
  refine (flowAt_z v A n c l s (k0 : Int) _ (h.bel hW1) HA.out).mono ?_
  rintro e w2 ⟨rfl, hb2⟩
  have kf2 := kf1.bel hb2
  have hW2 := bel_nx hW1 hb2
  have hsz2 := hW2.size
  have hlk2 := kf2.lt
  clear cf1 kf1
  obtain ⟨w3, hrun3, hS3, hg3⟩ := (inSet_made w2).put s (by unfold maxLen; omega) (by unfold maxLen; omega)
  have hM : w2.heap.size < w3.heap.size := hS3.lt
  have kf3 := (kf2.al (.map #[] 0)).gr hg3 (by simp; omega)
  have hW3 : Below w.heap.size w w3 := Below.grown (bel_al hW2 (.map #[] 0)) hg3 (by simp; omega) (fun q hq => by cases hq; exact hsz2)
  have cf3 := kf3.cell
  go_wp2_with fail
  refine (order_c v A n c l _ (h.bel hW3) (by omega)).mono ?_
  rintro e w4 ⟨O, on, oc, rfl, hO, hb4⟩
  have hon := own_countS hO
  rw [(ord_of HV.out).len, HL.out] at hon
  subst hon
  have kf4 := kf3.bel hb4
  have hW4 := bel_nx hW3 hb4
  have hS4 := hS3.bel hb4
  have hOc := (SlS.of_own hO).cap
  have hOm := (SlS.of_own hO).max
  clear cf3 kf3 kf2 hrun3
  go_wp2_with fail
  go_loopw [28] (fun iv wr => ∃ (i q : Nat) (names : List ByteArray), i ≤ on ∧ iv = .int .i64 (i : Int) ∧ inSet wr w2.heap.size q names ∧ q ≤ 1 + 4 * i ∧ Hid (SI l s (orderP l) i names) ∧ wr.ownsRow w3.heap.size 9 1 (.slice O on oc) on ((orderP l).map Value.string) ∧ Blk wr w.heap.size 25 #[.int .i64 v, .slice A on c] ∧ Below w.heap.size w wr) (fun iv _ => on - (intOf iv).toNat)
  case atStart => exact ⟨0, 1, [s], Nat.zero_le _, rfl, hS4, by omega, Lib.hid si0, hO, kf4, hW4⟩
  case round =>
    obtain ⟨i, q, names, hi, rfl, hSL, hq, HSI, hOL, kfL, hbL⟩ := hrel
    have cfL := kfL.cell
    have hszL := hbL.size
    by_cases hlt : i < on
    · obtain ⟨bo, offo, t, hAo, hxo, hco⟩ := SlS.get (SlS.of_own hOL) hlt
      subst hAo
      obtain ⟨k, af, u, hat, hkl, hpk, haf4⟩ := ord_at HV.out hxo
      obtain ⟨b, off, nm, B, mm, d, af2, u2, hAq, hx, hc0w, hc1w, hc2w, haf⟩ := SlP.get h (i := k) (by rw [← HL.out]; exact hkl)
      rw [hpk] at hx
      obtain ⟨rfl, rfl, rfl⟩ : t = nm ∧ af = af2 ∧ u = u2 := by simpa using hx
      subst hAq
      have hkn : k < on := by rw [← HL.out]; exact hkl
      have hmm4 : mm ≤ 4 := by rw [← haf.len]; exact haf4
      have hts := (szP_at hz hpk).1
      have HZA := Lib.hid (szP_at hz hpk).2
      have HPK := Lib.hid (List.mem_of_getElem? hpk)
      have HXO := Lib.hid hxo
      have HAT := Lib.hid hat
      have hcapa := haf.cap
      have hmaxa := haf.max
      clear hx hxo hat hkl hpk haf4
      have i0' : (0 : Int) ≤ (i : Int) := by omega
      have i1' : (i : Int) < (on : Int) := by omega
      have q0 : (0 : Int) ≤ (k : Int) := by omega
      have q1 : (k : Int) < (on : Int) := by omega
      have x0 : wr.cell? ⟨w.heap.size, 0, none⟩ = some (.int .i64 v) := kfL.cell 0
      have x1 : wr.cell? ⟨w.heap.size, 1, none⟩ = some (.slice (some ⟨b, off, none⟩) on c) := kfL.cell 1
      have x2 := cell_on hbL hc1w
      go_upto_region 7 with fail
      have xs : wr.drew.cell? ⟨w.heap.size, 0, none⟩ = some (.int .i64 v) ∧ wr.drew.cell? ⟨w.heap.size, 1, none⟩ = some (.slice (some ⟨b, off, none⟩) on c) ∧ wr.drew.cell? ⟨b, off + k * 3 + 1, none⟩ = some (.slice B mm d) := ⟨x0, x1, x2⟩
      go_region_held3 (fun w' => w'.cell? ⟨w.heap.size, 0, none⟩ = some (.int .i64 v) ∧ w'.cell? ⟨w.heap.size, 1, none⟩ = some (.slice (some ⟨b, off, none⟩) on c) ∧ w'.cell? ⟨b, off + k * 3 + 1, none⟩ = some (.slice B mm d)) (first | exact xs | exact ⟨y0, y1, y2⟩) ((go_at_call 65; refine (flowAt_z v (some ⟨b, off, none⟩) on c l t (k : Int) _ (h.bel (bel_dr hbL)) HAT.out).mono ?_; rintro e w5 ⟨rfl, hb5⟩; have hb5 : Below wr.heap.size wr w5 := (by with_reducible exact bel_nx (bel_dr (bel_refl wr)) hb5); have y0 := cell_on hb5 x0; have y1 := cell_on hb5 x1; have y2 := cell_on hb5 x2))
      have kf5 := kfL.bel hb5
      have hS5 := hSL.bel hb5
      have hO5 := own_bel hOL hb5
      have hbL5 := bel_nx hbL hb5
      clear cfL x0 x1 x2 y0 y1 y2 xs
      go_wp2_with fail
      go_loopw [41] (fun jv wq => ∃ (j q' : Nat) (names : List ByteArray), j ≤ mm ∧ jv = .int .i64 (j : Int) ∧ inSet wq w2.heap.size q' names ∧ q' ≤ 1 + 4 * i + j ∧ Hid (SK l s (orderP l) i t af j names) ∧ wq.ownsRow w3.heap.size 9 1 (.slice (some ⟨bo, offo, none⟩) on oc) on ((orderP l).map Value.string) ∧ Blk wq w.heap.size 25 #[.int .i64 v, .slice (some ⟨b, off, none⟩) on c] ∧ Below w.heap.size w wq) (fun jv _ => mm - (intOf jv).toNat)
      case atStart => exact ⟨0, q, names, Nat.zero_le _, rfl, hS5, by omega, Lib.hid (sk0 HSI.out), hO5, kf5, hbL5⟩
      case round =>
        obtain ⟨j, q', names', hj, rfl, hSQ, hq', HSK, hOQ, kfQ, hbQ⟩ := hrel
        have hszQ := hbQ.size
        by_cases hltj : j < mm
        · obtain ⟨ba, offa, a, hAa, hxa, hca⟩ := SlS.get (haf.bel hbQ) hltj
          subst hAa
          have haz := szL_at HZA.out hxa
          have HXA := Lib.hid hxa
          clear hxa
          have j0 : (0 : Int) ≤ (j : Int) := by omega
          have j1 : (j : Int) < (mm : Int) := by omega
          obtain ⟨bi, hbi⟩ : ∃ x, inB names' a = x := ⟨_, rfl⟩
          have HBI := Lib.hid hbi
          have hlk := hSQ.look a (by unfold maxLen; omega)
          rw [hbi] at hlk
          clear hbi
          cases bi
          · have HN := Lib.hid (sk_out HSK.out HXA.out HBI.out)
            go_wp2_with fail
            go_roundw
            case rel => exact ⟨j + 1, q', names', by omega, by go_num, hSQ, by omega, HN, hOQ, kfQ, hbQ⟩
            case measure => simp [intOf]; omega
          · have HN := Lib.hid (sk_in HSK.out HPK.out HXA.out HBI.out)
            obtain ⟨w6, hrun6, hS6, hg6⟩ := hSQ.put t (by unfold maxLen; omega) (by unfold maxLen; omega)
            have kf6 := kfQ.gr hg6 (by simp; omega)
            have hO6 := own_gr hOQ hg6 hM
            have hb6 : Below w.heap.size w w6 := Below.grown hbQ hg6 hszQ (fun q hq => by cases hq; exact hsz2)
            go_wp2_with fail
            go_roundw
            case rel => exact ⟨j + 1, q' + 1, names' ++ [t], by omega, by go_num, hS6, by omega, HN, hO6, kf6, hb6⟩
            case measure => simp [intOf]; omega
        · have HN := Lib.hid (si_next (ord_of HV.out) (flow_nodup HV.out) HSK.out (by rw [haf.len]; omega) HPK.out HXO.out)
          go_wp2_with fail
          go_roundw
          case rel => exact ⟨i + 1, q', names', by omega, by go_num, hSQ, by omega, HN, hOQ, kfQ, hbQ⟩
          case measure => simp [intOf]; omega
    · have HN := Lib.hid (si_end HV.out HSI.out (by rw [HL.out]; omega))
      go_wp2_with fail
      refine (flowNames_c v A on c l _ (h.bel hbL) (by omega)).mono ?_
      rintro e w5 ⟨D, dn, dc, rfl, hD, hb5⟩
      have hDc := (SlS.of_own hD).cap
      have hDm := (SlS.of_own hD).max
      have hdq := own_countS hD
      have hdn : dn = on := by rw [hdq]; simpa [namesP] using HL.out
      clear hdq
      subst hdn
      have hS5 := hSL.bel hb5
      have hbL5 := bel_nx hbL hb5
      clear cfL
      go_wp2_with fail
      go_loopw [10, 55] (fun ov jv wq => ∃ (j xn xc : Nat) (X : Option Addr), j ≤ dn ∧ jv = .int .i64 (j : Int) ∧ ov = .slice X xn xc ∧ xn ≤ j ∧ wq.ownsRow w5.heap.size 9 1 (.slice X xn xc) xn ((((namesP l).take j).filter (fun x => inB names x && !decide (x = s))).map Value.string) ∧ Below w5.heap.size w5 wq) (fun _ jv _ => dn - (intOf jv).toNat)
      case atStart => exact ⟨0, 0, 0, none, Nat.zero_le _, rfl, rfl, by omega, World.ownsRow_nil _ _ _ _, bel_refl _⟩
      case round =>
        obtain ⟨j, xn, xc, X, hj, rfl, rfl, hxn, hX, hbQ⟩ := hrel
        have hszQ := hbQ.size
        by_cases hltj : j < dn
        · obtain ⟨ba, offa, x, hAa, hxa, hca⟩ := SlS.get (SlS.of_own (own_bel hD hbQ)) hltj
          subst hAa
          have hxz := szL_at (szN hz) hxa
          have HXA := Lib.hid hxa
          clear hxa
          have j0 : (0 : Int) ≤ (j : Int) := by omega
          have j1 : (j : Int) < (dn : Int) := by omega
          obtain ⟨bi, hbi⟩ : ∃ q, inB names x = q := ⟨_, rfl⟩
          have HBI := Lib.hid hbi
          have hlk := (hS5.bel hbQ).look x (by unfold maxLen; omega)
          rw [hbi] at hlk
          clear hbi
          cases bi
          · have HO := Lib.hid (filt_out (P := fun x => inB names x && !decide (x = s)) HXA.out (by simp [HBI.out]))
            go_wp2_with fail
            go_roundw
            case rel => exact ⟨j + 1, xn, xc, X, by omega, by go_num, rfl, by omega, by rw [HO.out]; exact hX, hbQ⟩
            case measure => simp [intOf]; omega
          · by_cases hxs : x = s
            · have e2 : (x.toList == s.toList) = true := beqS_yes hxs
              have e3 : (x.toList != s.toList) = false := by rw [bne, e2]; rfl
              have HO := Lib.hid (filt_out (P := fun x => inB names x && !decide (x = s)) HXA.out (by simp [hxs]))
              clear hxs
              go_wp2_with fail
              go_roundw
              case rel => exact ⟨j + 1, xn, xc, X, by omega, by go_num, rfl, by omega, by rw [HO.out]; exact hX, hbQ⟩
              case measure => simp [intOf]; omega
            · have e2 : (x.toList == s.toList) = false := beqS_no hxs
              have e3 : (x.toList != s.toList) = true := by rw [bne, e2]; rfl
              have HO := Lib.hid (filt_in (P := fun x => inB names x && !decide (x = s)) HXA.out (by simp [HBI.out, hxs]))
              clear hxs
              go_wp2_with (at_builtin; refine wpList_append_sl (enc := encS) rfl _ _ 28 rfl w5.heap.size 9 i0 (.string ByteArray.empty) 1 16 Try.underlying28 hi0 hz0 hz1 hz2 rfl (by decide) (.slice X xn xc) xn ((((namesP l).take j).filter (fun x => inB names x && !decide (x = s))).map Value.string) rfl (hX.alloc _) (some ⟨wr.heap.size, 0, none⟩) 1 1 [x] rfl (fun _ => rfl) (Sl.one (Blk.new _ _ _)) one_S (by unfold maxLen; omega) (by omega) (by simp; omega) ?_; intro v9 w9 ho9 hg9 hl9; obtain ⟨A9, c9, rfl⟩ := own_form ho9; rw [flat_encS, ← List.map_append] at ho9; have hb9 : Below w5.heap.size w5 w9 := Below.grown (hbQ.alloc hszQ _) hg9 (by simp; omega) (fun q hq => (hX.lt q hq).1))
              go_roundw
              case rel => exact ⟨j + 1, xn + 1, c9, A9, by omega, by go_num, rfl, by omega, by rw [HO.out]; exact ho9, hb9⟩
              case measure => simp [intOf]; omega
        · have hjn : (namesP l).take j = namesP l := List.take_of_length_le (by have := HL.out; simp [namesP]; omega)
          rw [hjn] at hX
          go_wp2_with fail
          go_ret
          exact ⟨X, xn, xc, _, rfl, ownsRow_base hX hbL5.size, HN.out, bel_nx hbL5 hbQ⟩
end Go.Proofs.Ytdchfiiaollheaa
