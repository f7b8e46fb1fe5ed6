/- What the draws of runs call: the reference's FlowReady and RunNew. -/
import Derived.Test.YtdchfiiaollheaaUndo1
namespace Go.Proofs.Ytdchfiiaollheaa
open Go.RowKit

def readyR (v : Int) (l : List Stp) (done : List ByteArray) : List ByteArray := if flowB v l = true then readyP l done else []

set_option maxRecDepth 20000 in
set_option maxHeartbeats 4000000 in
theorem specFlowReady_c (v : Int) (A : Option Addr) (n c : Nat) (l : List Stp) (G : Option Addr) (gn gc : Nat) (done : List ByteArray) (w : World) (h : SlP w A n c l) (hz : SzP l) (hn : n ≤ 1048576) (h' : SlS w G gn gc done) : Calls Try.prog 99 #[.agg #[.int .i64 v, .slice A n c], .slice G gn gc] w fun e w' =>
    ∃ D dn dc, e = .returned (.slice D dn dc) ∧ w'.ownsRow w.heap.size 9 1 (.slice D dn dc) dn ((readyR v l done).map Value.string) ∧ dn ≤ n ∧ Below w.heap.size w w' := by
  obtain ⟨i0, hi0, hz0, hz1, hz2⟩ := info_parts str_info
  have HL := Lib.hid h.len
  have hcap := h.cap
  have hmax := h.max
  have kf := (Blk.new w 25 #[.int .i64 v, .slice A n c]).al (.cells #[] 9)
  have hW := bel_al (bel_al (bel_refl w) (.cells #[.int .i64 v, .slice A n c] 25)) (.cells #[] 9)
  have hT := texts_new (w.alloc (.cells #[.int .i64 v, .slice A n c] 25))
  rw [show (w.alloc (.cells #[.int .i64 v, .slice A n c] 25)).heap.size = w.heap.size + 1 by simp] at hT
  obtain ⟨bv, hbv⟩ : ∃ x, flowB v l = x := ⟨_, rfl⟩
  have HBV := Lib.hid hbv
  clear hbv
  go_enter Try.func99, Try.ntmps99
  go_wp2_with fail
  go_loopw [5, 6] (fun dv iv wr => ∃ (k dn dc : Nat) (D : Option Addr), k ≤ n ∧ iv = .int .i64 (k : Int) ∧ dv = .slice D dn dc ∧ wr.ownsRow (w.heap.size + 1) 9 1 (.slice D dn dc) dn ((readyP (l.take k) done).map Value.string) ∧ dn ≤ k ∧ Hid (0 < k → bv = true) ∧ Blk wr w.heap.size 25 #[.int .i64 v, .slice A n c] ∧ Below w.heap.size w wr) (fun _ iv _ => n - (intOf iv).toNat)
  case atStart => exact ⟨0, 0, 0, _, Nat.zero_le _, rfl, rfl, hT, Nat.le_refl _, Lib.hid (fun h => by omega), kf, hW⟩
  case round =>
    obtain ⟨k, dn, dc, D, hk, rfl, rfl, hD, hdn, HK, kf0, hbr0⟩ := hrel
    have cf0 := kf0.cell
    by_cases hlt : k < n
    · have k0 : (0 : Int) ≤ (k : Int) := by omega
      have k1 : (k : Int) < (n : Int) := by omega
      go_wp2_with fail
      refine (specFlowValid_c v A n c l _ (h.bel hbr0) hz hn).mono ?_
      rintro e w1 ⟨rfl, hb1⟩
      rw [HBV.out]
      have hD1 := own_bel hD hb1
      have kfL := kf0.bel hb1
      have hbr := bel_nx hbr0 hb1
      have hsz := hbr.size
      have hkl := kfL.lt
      clear hb1 cf0
      cases bv
      · have hk00 : k = 0 := by
          rcases Nat.eq_zero_or_pos k with q | q
          · exact q
          · have := HK.out q; cases this
        have HR : Hid (readyR v l done = readyP (l.take k) done) := Lib.hid (by rw [hk00]; simp [readyR, HBV.out, readyP])
        clear hk00
        go_wp2_with fail
        go_ret
        rw [HR.out]
        exact ⟨D, dn, dc, rfl, ownsRow_base hD1 (by omega), by omega, hbr⟩
      obtain ⟨b, off, t, B, m, d, af, u, rfl, hx, hc0, hc1, hc2, haf⟩ := SlP.get (h.bel hbr) hlt
      have HX := Lib.hid hx
      clear hx
      have hG1 := h'.bel hbr
      have cf := kfL.cell
      obtain ⟨b1, hb1⟩ : ∃ x, inB done t = x := ⟨_, rfl⟩
      have HB1 := Lib.hid hb1
      clear hb1
      obtain ⟨b2, hb2⟩ : ∃ x, haveB done af = x := ⟨_, rfl⟩
      have HB2 := Lib.hid hb2
      clear hb2
      go_wp2_with fail
      refine (l1At_b G gn gc done t b1 _ hG1 HB1.out).mono ?_
      rintro e w2 ⟨z, rfl, hzz, rfl⟩
      cases b1
      · have hzz : decide (z < 0) = true := hzz
        go_wp2_with fail
        refine (l1Have_b G B gn gc m d done af b2 _ hG1 haf HB2.out).mono ?_
        rintro e w3 ⟨rfl, rfl⟩
        cases b2
        · have HN := Lib.hid (readyP_out2 HX.out HB2.out)
          go_wp2_with fail
          go_roundw
          case rel => exact ⟨k + 1, dn, dc, D, by omega, by go_num, rfl, by rw [HN.out]; exact hD1, by omega, Lib.hid (fun _ => by first | rfl | trivial), kfL, hbr⟩
          case measure => simp [intOf]; omega
        · have HN := Lib.hid (readyP_in HX.out HB1.out HB2.out)
          go_wp2_with (at_builtin; refine wpList_append_sl (enc := encS) rfl _ _ 28 rfl (w.heap.size + 1) 9 i0 (.string ByteArray.empty) 1 16 Try.underlying28 hi0 hz0 hz1 hz2 rfl (by decide) (.slice D dn dc) dn ((readyP (l.take k) done).map Value.string) rfl (hD1.alloc _) (some ⟨w1.heap.size, 0, none⟩) 1 1 [t] rfl (fun _ => rfl) (Sl.one (Blk.new _ _ _)) one_S (by unfold maxLen; omega) (by omega) (by simp; omega) ?_; intro v5 w5 ho5 hg5 hl5; obtain ⟨A5, c5, rfl⟩ := own_form ho5; rw [flat_encS, ← List.map_append] at ho5)
          have hg := (World.grownBy_alloc w1 _ _).trans hg5
          go_roundw
          case rel => exact ⟨k + 1, dn + 1, c5, A5, by omega, by go_num, rfl, by rw [HN.out]; exact ho5, by omega, Lib.hid (fun _ => by first | rfl | trivial), kfL.gr hg (fun e => by have := (hD1.lt _ e.symm).1; omega), hbr.grown hg hsz (fun q hq => by have := (hD1.lt q hq).1; omega)⟩
          case measure => simp [intOf]; omega
      · have hzz : decide (z < 0) = false := hzz
        have HN := Lib.hid (readyP_out1 HX.out HB1.out)
        go_wp2_with fail
        go_roundw
        case rel => exact ⟨k + 1, dn, dc, D, by omega, by go_num, rfl, by rw [HN.out]; exact hD1, by omega, Lib.hid (fun _ => by first | rfl | trivial), kfL, hbr⟩
        case measure => simp [intOf]; omega
    · have HR : Hid (readyR v l done = readyP (l.take k) done) := Lib.hid (by
        have hkn : k = n := by omega
        rw [List.take_of_length_le (by rw [HL.out]; omega)]
        unfold readyR
        rw [HBV.out]
        cases hq : bv
        · have h0 : k = 0 := by
            rcases Nat.eq_zero_or_pos k with q | q
            · exact q
            · have := HK.out q; rw [hq] at this; cases this
          have : l = [] := List.eq_nil_of_length_eq_zero (by rw [HL.out]; omega)
          subst this
          rfl
        · rfl)
      have hsz := hbr0.size
      go_wp2_with fail
      go_ret
      rw [HR.out]
      exact ⟨D, dn, dc, rfl, ownsRow_base hD (by omega), by omega, hbr0⟩

set_option maxRecDepth 20000 in
set_option maxHeartbeats 2000000 in
theorem specRunNew_c (v : Int) (A : Option Addr) (n c : Nat) (l : List Stp) (w : World) (h : SlP w A n c l) (hz : SzP l) (hn : n ≤ 1048576) : Calls Try.prog 98 #[.agg #[.int .i64 v, .slice A n c]] w fun e w' =>
    ∃ D dc, e = .returned (.tuple #[.agg #[.int .i64 0, .slice D 0 dc], .bool (flowB v l)]) ∧ w'.ownsRow w.heap.size 9 1 (.slice D 0 dc) 0 (([] : List ByteArray).map Value.string) ∧ Below w.heap.size w w' := by
  have kr := Blk.new (w.alloc (.cells #[.int .i64 v, .slice A n c] 25)) 40 #[.int .i64 0, .slice none 0 0]
  simp only [World.alloc, Array.size_push] at kr
  have kr : Blk ((w.alloc (.cells #[.int .i64 v, .slice A n c] 25)).alloc (.cells #[.int .i64 0, .slice none 0 0] 40)) (w.heap.size + 1) 40 #[.int .i64 0, .slice none 0 0] := kr
  have hW := bel_al (bel_al (bel_refl w) (.cells #[.int .i64 v, .slice A n c] 25)) (.cells #[.int .i64 0, .slice none 0 0] 40)
  go_enter Try.func98, Try.ntmps98
  go_wp2_with fail
  refine (specFlowValid_c v A n c l _ (h.bel hW) hz hn).mono ?_
  rintro e w1 ⟨rfl, hb1⟩
  have krV := kr.bel hb1
  have hWV := bel_nx hW hb1
  have hkl := krV.lt
  have cr := krV.cell
  have fr := krV.frozen
  cases hv : flowB v l
  · have HV := Lib.hid hv
    clear hv
    go_wp2_with fail
    rw [HV.out]
    have K := (krV.set_ 0 (.int .i64 0)).set_ 1 (.slice none 0 0)
    have cz := K.cell
    refine bodyPost_ret (v := .tuple #[.agg #[.int .i64 0, .slice none 0 0], .bool false]) (by simp [results, Try.results98, go_sem, cz]) rfl ⟨none, 0, rfl, World.ownsRow_nil _ _ _ _, ?_⟩
    exact bel_set (bel_set hWV (by simp) _) (by simp) _
  · have HV := Lib.hid hv
    clear hv
    go_wp2_with fail
    rw [HV.out]
    have K := ((krV.set_ 0 (.int .i64 0)).set_ 1 (.slice (some ⟨w1.heap.size, 0, none⟩) 0 0)).al (.cells #[] 9)
    have cz := K.cell
    have hT := texts_new ((w1.setCell ⟨w.heap.size + 1, 0, none⟩ (.int .i64 0)).setCell ⟨w.heap.size + 1, 1, none⟩ (.slice (some ⟨w1.heap.size, 0, none⟩) 0 0))
    rw [show ((w1.setCell ⟨w.heap.size + 1, 0, none⟩ (.int .i64 0)).setCell ⟨w.heap.size + 1, 1, none⟩ (.slice (some ⟨w1.heap.size, 0, none⟩) 0 0)).heap.size = w1.heap.size by simp [World.setCell]] at hT
    refine bodyPost_ret (v := .tuple #[.agg #[.int .i64 0, .slice (some ⟨w1.heap.size, 0, none⟩) 0 0], .bool true]) (by simp [results, Try.results98, go_sem, cz]) rfl ⟨some ⟨w1.heap.size, 0, none⟩, 0, rfl, ownsRow_base hT (by omega), ?_⟩
    exact bel_al (bel_set (bel_set hWV (by simp) _) (by simp) _) _

end Go.Proofs.Ytdchfiiaollheaa
