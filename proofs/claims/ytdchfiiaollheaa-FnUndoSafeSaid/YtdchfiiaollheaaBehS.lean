/- What lies behind a step, by the reference: l1Put, FlowBehind. -/
import Derived.Test.YtdchfiiaollheaaBehPut
import Derived.Test.YtdchfiiaollheaaUndo1
import Derived.Deep.Light
namespace Go.Proofs.Ytdchfiiaollheaa
open Go.RowKit

set_option maxRecDepth 20000 in
set_option maxHeartbeats 8000000 in
theorem specFlowBehind_c (v : Int) (A : Option Addr) (n c : Nat) (l : List Stp) (s : ByteArray) (w : World) (h : SlP w A n c l) (hz : SzP l) (hn : n ≤ 1048576) : Calls Try.prog 97 #[.agg #[.int .i64 v, .slice A n c], .string s] w fun e w' =>
    ∃ (D : Option Addr) (dn dc : Nat) (m : List ByteArray), e = .returned (.slice D dn dc) ∧ w'.ownsRow w.heap.size 9 1 (.slice D dn dc) dn (m.map Value.string) ∧ IsBeh v l s m ∧ Below w.heap.size w w' := by
  have HL := Lib.hid h.len
  have hcap := h.cap
  have hmax := h.max
  have kf := (Blk.new w 25 #[.int .i64 v, .slice A n c]).al (.cells #[] 9)
  have hW := bel_al (bel_al (bel_refl w) (.cells #[.int .i64 v, .slice A n c] 25)) (.cells #[] 9)
  have hT := ownsRow_base (B' := w.heap.size) (texts_new (w.alloc (.cells #[.int .i64 v, .slice A n c] 25))) (by simp)
  rw [show (w.alloc (.cells #[.int .i64 v, .slice A n c] 25)).heap.size = w.heap.size + 1 by simp] at hT
  go_enter Try.func97, Try.ntmps97
  go_wp2_with fail
  refine (specFlowValid_c v A n c l _ (h.bel hW) hz hn).mono ?_
  rintro e w1 ⟨rfl, hb1⟩
  have kf1 := kf.bel hb1
  have hW1 := bel_nx hW hb1
  have hT1 := own_bel hT hb1
  have cf1 := kf1.cell
  clear kf hT
  cases hv : flowB v l
  · have HF := Lib.hid (isBeh_nil (s := s) (fun x => behB_no (s := s) (x := x) hv))
    clear hv
    go_wp2_with fail
    go_ret
    exact ⟨_, 0, 0, [], rfl, hT1, HF.out, hW1⟩
  have HV := Lib.hid hv
  clear hv
  rcases atS_cases (namesP l) s with ⟨ha, hnm⟩ | ⟨k0, ha, _, _⟩
  · have HF := Lib.hid (isBeh_nil (v := v) (s := s) (fun x => behB_at (x := x) hnm))
    have HA := Lib.hid ha
    clear ha hnm
    go_wp2_with fail
    refine (l2At_z A n c l s (-1) _ (h.bel hW1) HA.out).mono ?_
    rintro e w2 ⟨rfl, rfl⟩
    go_wp2_with fail
    go_ret
    exact ⟨_, 0, 0, [], rfl, hT1, HF.out, hW1⟩
  have HA := Lib.hid ha
  have dk : decide ((k0 : Int) < 0) = false := by simp
  clear ha
  go_wp2_with fail
  refine (l2At_z A n c l s (k0 : Int) _ (h.bel hW1) HA.out).mono ?_
  rintro e w2 ⟨rfl, hw2⟩
  subst hw2
  go_wp2_with fail
  go_loopw [5, 6] (fun dv iv wr => ∃ (r : Nat) (D : Option Addr) (dn dc : Nat) (m : List ByteArray), r ≤ n ∧ iv = .int .i64 (r : Int) ∧ dv = .slice D dn dc ∧ wr.ownsRow w.heap.size 9 1 (.slice D dn dc) dn (m.map Value.string) ∧ Hid (BI l s (orderP l) r m) ∧ Blk wr w.heap.size 25 #[.int .i64 v, .slice A n c] ∧ Below w.heap.size w wr) (fun _ iv _ => n - (intOf iv).toNat)
  case atStart => exact ⟨0, _, 0, 0, [], Nat.zero_le _, rfl, rfl, hT1, Lib.hid bi0, kf1, hW1⟩
  case round =>
    obtain ⟨r, D, dn, dc, m, hr, rfl, rfl, hD, HB, kfL, hbL⟩ := hrel
    have cfL := kfL.cell
    clear cf1
    by_cases hlt : r < n
    · have k0' : (0 : Int) ≤ (r : Int) := by omega
      have k1' : (r : Int) < (n : Int) := by omega
      go_wp2_with fail
      go_loopw [5, 7] (fun dv iv wr => ∃ (i : Nat) (D : Option Addr) (dn dc : Nat) (m : List ByteArray), i ≤ n ∧ iv = .int .i64 (i : Int) ∧ dv = .slice D dn dc ∧ wr.ownsRow w.heap.size 9 1 (.slice D dn dc) dn (m.map Value.string) ∧ Hid (BM l s (orderP l) r i m) ∧ Blk wr w.heap.size 25 #[.int .i64 v, .slice A n c] ∧ Below w.heap.size w wr) (fun _ iv _ => n - (intOf iv).toNat)
      case atStart => exact ⟨0, D, dn, dc, m, Nat.zero_le _, rfl, rfl, hD, Lib.hid (bm0 HB.out), kfL, hbL⟩
      case round =>
        obtain ⟨i, DM, dnm, dcm, mM, hi, rfl, rfl, hDM, HM, kfM, hbM⟩ := hrel
        have cfM := kfM.cell
        have hszM := hbM.size
        clear cfL
        by_cases hlti : i < n
        · have i0 : (0 : Int) ≤ (i : Int) := by omega
          have i1 : (i : Int) < (n : Int) := by omega
          obtain ⟨b, off, nm, B, mm, d, af, u, hAq, hx, hc0w, hc1w, hc2w, haf⟩ := SlP.get h hlti
          subst hAq
          have hcapa := haf.cap
          have hmaxa := haf.max
          have hc0 := cell_on hbM hc0w
          have hc1 := cell_on hbM hc1w
          have hc2 := cell_on hbM hc2w
          have HX := Lib.hid hx
          clear hx hc0w hc1w hc2w
          obtain ⟨b1, hb1⟩ : ∃ x, inB af s = x := ⟨_, rfl⟩
          have HB1 := Lib.hid hb1
          clear hb1
          obtain ⟨g, hg⟩ : ∃ g, g = wr.heap.size := ⟨_, rfl⟩
          have kbM := Blk.new wr 30 #[.string nm, .slice B mm d, .bool u]
          have cbM := kbM.cell
          have kfM2 := kfM.al (.cells #[.string nm, .slice B mm d, .bool u] 30)
          have hbM2 := bel_al hbM (.cells #[.string nm, .slice B mm d, .bool u] 30)
          have hDM2 := hDM.alloc (.cells #[.string nm, .slice B mm d, .bool u] 30)
          have hlg : g < (wr.alloc (.cells #[.string nm, .slice B mm d, .bool u] 30)).heap.size := by rw [hg]; simp
          rw [← hg] at kbM cbM
          have HG := Lib.hid hg
          go_wp2_with fail
          rw [← HG.out]
          refine (l1At_b B mm d af s b1 _ (haf.bel hbM2) HB1.out).mono ?_
          rintro e wz ⟨z1, rfl, hz1', hwz⟩
          subst hwz
          clear hg
          cases b1
          · have hz1' : decide (z1 < 0) = true := hz1'
            have hz1q : decide (0 ≤ z1) = false := by simp at hz1' ⊢; omega
            have HBK : Hid (BK l s (orderP l) r i nm af 0 mM) := Lib.hid (bk0_out HM.out HB1.out)
            obtain ⟨hDI, kfI, kbI, hbI⟩ := And.intro hDM2 (And.intro kfM2 (And.intro kbM hbM2))
            clear cfM
            go_wp2_with fail
            go_loopw [5, 9] (fun dv kv wq => ∃ (k : Nat) (D : Option Addr) (dn dc : Nat) (m : List ByteArray), k ≤ mm ∧ kv = .int .i64 (k : Int) ∧ dv = .slice D dn dc ∧ wq.ownsRow w.heap.size 9 1 (.slice D dn dc) dn (m.map Value.string) ∧ Hid (BK l s (orderP l) r i nm af k m) ∧ Blk wq w.heap.size 25 #[.int .i64 v, .slice (some ⟨b, off, none⟩) n c] ∧ Blk wq g 30 #[.string nm, .slice B mm d, .bool u] ∧ Below w.heap.size w wq) (fun _ kv _ => mm - (intOf kv).toNat)
            case atStart => exact ⟨0, _, _, _, _, Nat.zero_le _, rfl, rfl, hDI, HBK, kfI, kbI, hbI⟩
            case round =>
              obtain ⟨k, DK, dnk, dck, mk, hk, rfl, rfl, hDK, HK, kfK, kbK, hbK⟩ := hrel
              have hszK := hbK.size
              have cfK := kfK.cell
              have cbK := kbK.cell
              have hlgK := kbK.lt
              by_cases hltk : k < mm
              · obtain ⟨ba, offa, a, hAa, hxa, hca⟩ := SlS.get (haf.bel hbK) hltk
                subst hAa
                have HXA := Lib.hid hxa
                clear hxa
                have j0 : (0 : Int) ≤ (k : Int) := by omega
                have j1 : (k : Int) < (mm : Int) := by omega
                obtain ⟨b2, hb2⟩ : ∃ x, inB mk a = x := ⟨_, rfl⟩
                have HB2 := Lib.hid hb2
                clear hb2
                go_wp2_with fail
                refine (l1At_b DK dnk dck mk a b2 _ (SlS.of_own hDK) HB2.out).mono ?_
                rintro e wz ⟨z2, rfl, hz2, hwz⟩
                subst hwz
                cases b2
                · have hz2 : decide (z2 < 0) = true := hz2
                  have hz2' : decide (0 ≤ z2) = false := by simp at hz2 ⊢; omega
                  have HN := Lib.hid (bk_out HK.out HXA.out HB2.out)
                  go_wp2_with fail
                  go_roundw
                  case rel => exact ⟨k + 1, DK, dnk, dck, mk, by omega, by go_num, rfl, hDK, HN, kfK, kbK, hbK⟩
                  case measure => simp [intOf]; omega
                · have hz2 : decide (z2 < 0) = false := hz2
                  have hz2' : decide (0 ≤ z2) = true := by simp at hz2 ⊢; omega
                  have hl8 : dnk ≤ 1000 := by have h1 := bi_len HV.out HK.out.1.1; have h2 := own_countS hDK; omega
                  go_wp2_with fail
                  refine (l1Put_c DK dnk dck mk nm _ (SlS.of_own hDK) hl8 HK.out.1.1.1).mono ?_
                  rintro e wp ⟨DP, dnp, dcp, mp, rfl, hDP, hPR, hbP⟩
                  have HN := Lib.hid (bk_in HK.out HX.out HXA.out HB2.out hPR)
                  go_wp2_with fail
                  go_roundw
                  case rel => exact ⟨k + 1, DP, dnp, dcp, mp, by omega, by go_num, rfl, ownsRow_base hDP hszK, HN, kfK.bel hbP, kbK.bel hbP, bel_nx hbK hbP⟩
                  case measure => simp [intOf]; omega
              · have HN := Lib.hid (bm_next (ord_of HV.out) (flow_nodup HV.out) HK.out (by rw [haf.len]; omega) HX.out)
                go_wp2_with fail
                go_roundw
                case rel => exact ⟨i + 1, DK, dnk, dck, mk, by omega, by go_num, rfl, hDK, HN, kfK, hbK⟩
                case measure => simp [intOf]; omega
          · have hz1' : decide (z1 < 0) = false := hz1'
            have hz1q : decide (0 ≤ z1) = true := by simp at hz1' ⊢; omega
            have hl8 : dnm ≤ 1000 := by have h1 := bi_len HV.out HM.out.1; have h2 := own_countS hDM; omega
            go_wp2_with fail
            refine (l1Put_c DM dnm dcm mM nm _ (SlS.of_own hDM2) hl8 HM.out.1.1).mono ?_
            rintro e wp ⟨DP, dnp, dcp, mp, rfl, hDP, hPR, hbP⟩
            have HBK : Hid (BK l s (orderP l) r i nm af 0 mp) := Lib.hid (bk0_in HM.out HX.out HB1.out hPR)
            obtain ⟨hDI, kfI, kbI, hbI⟩ := And.intro (ownsRow_base (B' := w.heap.size) hDP (by simp; omega)) (And.intro (kfM2.bel hbP) (And.intro (kbM.bel hbP) (bel_nx hbM2 hbP)))
            clear cfM cbM
            go_wp2_with fail
            go_loopw [5, 9] (fun dv kv wq => ∃ (k : Nat) (D : Option Addr) (dn dc : Nat) (m : List ByteArray), k ≤ mm ∧ kv = .int .i64 (k : Int) ∧ dv = .slice D dn dc ∧ wq.ownsRow w.heap.size 9 1 (.slice D dn dc) dn (m.map Value.string) ∧ Hid (BK l s (orderP l) r i nm af k m) ∧ Blk wq w.heap.size 25 #[.int .i64 v, .slice (some ⟨b, off, none⟩) n c] ∧ Blk wq g 30 #[.string nm, .slice B mm d, .bool u] ∧ Below w.heap.size w wq) (fun _ kv _ => mm - (intOf kv).toNat)
            case atStart => exact ⟨0, _, _, _, _, Nat.zero_le _, rfl, rfl, hDI, HBK, kfI, kbI, hbI⟩
            case round =>
              obtain ⟨k, DK, dnk, dck, mk, hk, rfl, rfl, hDK, HK, kfK, kbK, hbK⟩ := hrel
              have hszK := hbK.size
              have cfK := kfK.cell
              have cbK := kbK.cell
              have hlgK := kbK.lt
              by_cases hltk : k < mm
              · obtain ⟨ba, offa, a, hAa, hxa, hca⟩ := SlS.get (haf.bel hbK) hltk
                subst hAa
                have HXA := Lib.hid hxa
                clear hxa
                have j0 : (0 : Int) ≤ (k : Int) := by omega
                have j1 : (k : Int) < (mm : Int) := by omega
                obtain ⟨b2, hb2⟩ : ∃ x, inB mk a = x := ⟨_, rfl⟩
                have HB2 := Lib.hid hb2
                clear hb2
                go_wp2_with fail
                refine (l1At_b DK dnk dck mk a b2 _ (SlS.of_own hDK) HB2.out).mono ?_
                rintro e wz ⟨z2, rfl, hz2, hwz⟩
                subst hwz
                cases b2
                · have hz2 : decide (z2 < 0) = true := hz2
                  have hz2' : decide (0 ≤ z2) = false := by simp at hz2 ⊢; omega
                  have HN := Lib.hid (bk_out HK.out HXA.out HB2.out)
                  go_wp2_with fail
                  go_roundw
                  case rel => exact ⟨k + 1, DK, dnk, dck, mk, by omega, by go_num, rfl, hDK, HN, kfK, kbK, hbK⟩
                  case measure => simp [intOf]; omega
                · have hz2 : decide (z2 < 0) = false := hz2
                  have hz2' : decide (0 ≤ z2) = true := by simp at hz2 ⊢; omega
                  have hl8 : dnk ≤ 1000 := by have h1 := bi_len HV.out HK.out.1.1; have h2 := own_countS hDK; omega
                  go_wp2_with fail
                  refine (l1Put_c DK dnk dck mk nm _ (SlS.of_own hDK) hl8 HK.out.1.1.1).mono ?_
                  rintro e wp ⟨DP, dnp, dcp, mp, rfl, hDP, hPR, hbP⟩
                  have HN := Lib.hid (bk_in HK.out HX.out HXA.out HB2.out hPR)
                  go_wp2_with fail
                  go_roundw
                  case rel => exact ⟨k + 1, DP, dnp, dcp, mp, by omega, by go_num, rfl, ownsRow_base hDP hszK, HN, kfK.bel hbP, kbK.bel hbP, bel_nx hbK hbP⟩
                  case measure => simp [intOf]; omega
              · have HN := Lib.hid (bm_next (ord_of HV.out) (flow_nodup HV.out) HK.out (by rw [haf.len]; omega) HX.out)
                go_wp2_with fail
                go_roundw
                case rel => exact ⟨i + 1, DK, dnk, dck, mk, by omega, by go_num, rfl, hDK, HN, kfK, hbK⟩
                case measure => simp [intOf]; omega
        · have HN := Lib.hid (bi_next HM.out (by rw [HL.out]; omega))
          go_wp2_with fail
          go_roundw
          case rel => exact ⟨r + 1, DM, dnm, dcm, mM, by omega, by go_num, rfl, hDM, HN, kfM, hbM⟩
          case measure => simp [intOf]; omega
    · have HN := Lib.hid (bi_end HV.out HB.out (by rw [HL.out]; omega))
      go_wp2_with fail
      go_ret
      exact ⟨D, dn, dc, m, rfl, hD, HN.out, hbL⟩

end Go.Proofs.Ytdchfiiaollheaa
