/- What lies behind a step, by the reference: l1Put, FlowBehind. -/
import Derived.Test.YtdchfiiaollheaaBehPlain2
import Derived.Test.YtdchfiiaollheaaUndo1
import Derived.Deep.Light
namespace Go.Proofs.Ytdchfiiaollheaa
open Go.RowKit

set_option maxRecDepth 20000 in
set_option maxHeartbeats 2000000 in
theorem l1Put_c (A : Option Addr) (n c : Nat) (li : List ByteArray) (s : ByteArray) (w : World) (h : SlS w A n c li) (hn : n ≤ 1000) (hN : li.Nodup) : Calls Try.prog 102 #[.slice A n c, .string s] w fun e w' =>
    ∃ (D : Option Addr) (dn dc : Nat) (m : List ByteArray), e = .returned (.slice D dn dc) ∧ w'.ownsRow w.heap.size 9 1 (.slice D dn dc) dn (m.map Value.string) ∧ PutR li s m ∧ Below w.heap.size w w' := by
  obtain ⟨i0, hi0, hz0, hz1, hz2⟩ := info_parts str_info
  have HL := Lib.hid h.len
  have HN := Lib.hid hN
  clear hN
  have hcap := h.cap
  have hmax := h.max
  have hT := texts_new w
  have hW := bel_al (bel_refl w) (.cells #[] 9)
  go_enter Try.func102, Try.ntmps102
  go_wp2_with fail
  go_loopw [5, 6, 7] (fun dv bv iv wr => ∃ (k : Nat) (D : Option Addr) (dn dc : Nat) (d : Bool) (out : List ByteArray), k ≤ n ∧ iv = .int .i64 (k : Int) ∧ bv = .bool d ∧ dv = .slice D dn dc ∧ wr.ownsRow w.heap.size 9 1 (.slice D dn dc) dn (out.map Value.string) ∧ Hid (PutI li s k d out) ∧ dn ≤ k + 1 ∧ Below w.heap.size w wr) (fun _ _ iv _ => n - (intOf iv).toNat)
  case atStart => exact ⟨0, _, 0, 0, false, [], Nat.zero_le _, rfl, rfl, rfl, hT, Lib.hid (put0 li s), by omega, hW⟩
  case round =>
    obtain ⟨k, D, dn, dc, d, out, hk, rfl, rfl, rfl, hD, HP, hdn, hbr⟩ := hrel
    have hsz := hbr.size
    by_cases hlt : k < n
    · obtain ⟨b, off, t, hA, hx, hcw⟩ := SlS.get h hlt
      subst hA
      have hc0 := cell_on hbr hcw
      have HX := Lib.hid hx
      clear hx
      have k0 : (0 : Int) ≤ (k : Int) := by omega
      have k1 : (k : Int) < (n : Int) := by omega
      have hdk : d = false → dn ≤ k := fun e => by
        have h1 := HP.out.len
        have h2 := own_countS hD
        rw [e] at h1
        simp at h1
        omega
      by_cases hts : t = s
      · have e2 : (t.toList == s.toList) = true := beqS_yes hts
        have e2' : (s.toList == t.toList) = true := beqS_yes hts.symm
        have e3 : (t.toList != s.toList) = false := by rw [bne, e2]; rfl
        have e4 : Op.bytesLess t.toList s.toList = false := by rw [hts]; exact ltS_irrefl s
        have e5 : Op.bytesLess s.toList t.toList = false := by rw [hts]; exact ltS_irrefl s
        have HS : ∀ o, Hid (PutI li s k true o → PutI li s (k + 1) true o) := fun o => Lib.hid (fun hh => put_skip hh (by rw [← hts]; exact HX.out))
        clear hts
        cases d
        · have HM := Lib.hid (put_mark HP.out)
          have hdk := hdk rfl
          go_wp2_with (at_builtin; refine wpList_append_sl (enc := encS) rfl _ _ 28 rfl w.heap.size 9 i0 (.string ByteArray.empty) 1 16 Try.underlying28 hi0 hz0 hz1 hz2 rfl (by decide) (.slice D dn dc) dn (out.map Value.string) rfl (hD.alloc _) (some ⟨wr.heap.size, 0, none⟩) 1 1 [s] rfl (fun _ => rfl) (Sl.one (Blk.new _ _ _)) one_S (by unfold maxLen; omega) (by omega) (by simp; omega) ?_; intro v5 w5 ho5 hg5 hl5; obtain ⟨A5, c5, rfl⟩ := own_form ho5; rw [flat_encS, ← List.map_append] at ho5; have hb5 : Below w.heap.size w w5 := Below.grown (hbr.alloc hsz _) hg5 (by simp; omega) (fun q hq => (hD.lt q hq).1); have x5 := cell_on hb5 hcw; have hs5 := hb5.size)
          go_roundw
          case rel => exact ⟨k + 1, A5, dn + 1, c5, true, out ++ [s], by omega, by go_num, rfl, rfl, ho5, Lib.hid ((HS _).out HM.out), by omega, hb5⟩
          case measure => simp [intOf]; omega
        · go_wp2_with fail
          go_roundw
          case rel => exact ⟨k + 1, D, dn, dc, true, out, by omega, by go_num, rfl, rfl, hD, Lib.hid ((HS _).out HP.out), by omega, hbr⟩
          case measure => simp [intOf]; omega
      · have e2 : (t.toList == s.toList) = false := beqS_no hts
        have e2' : (s.toList == t.toList) = false := beqS_no (Ne.symm hts)
        have e3 : (t.toList != s.toList) = true := by rw [bne, e2]; rfl
        have HA : ∀ d o, Hid (PutI li s k d o → PutI li s (k + 1) d (o ++ [t])) := fun d o => Lib.hid (fun hh => put_add HN.out hh HX.out hts)
        have hlx : ltS t s = true ∨ ltS s t = true := by
          cases h1 : ltS t s
          · cases h2 : ltS s t
            · exact absurd (ltS_total h1 h2) hts
            · exact .inr rfl
          · exact .inl rfl
        clear hts
        cases d
        · have hdk := hdk rfl
          rcases hlx with hlx | hlx
          · have e4 : Op.bytesLess t.toList s.toList = true := hlx
            have e5 : Op.bytesLess s.toList t.toList = false := ltS_asymm hlx
            clear hlx
            go_wp2_with (at_builtin; refine wpList_append_sl (enc := encS) rfl _ _ 28 rfl w.heap.size 9 i0 (.string ByteArray.empty) 1 16 Try.underlying28 hi0 hz0 hz1 hz2 rfl (by decide) (.slice D dn dc) dn (out.map Value.string) rfl (hD.alloc _) (some ⟨wr.heap.size, 0, none⟩) 1 1 [t] rfl (fun _ => rfl) (Sl.one (Blk.new _ _ _)) one_S (by unfold maxLen; omega) (by omega) (by simp; omega) ?_; intro v5 w5 ho5 hg5 hl5; obtain ⟨A5, c5, rfl⟩ := own_form ho5; rw [flat_encS, ← List.map_append] at ho5; have hb5 : Below w.heap.size w w5 := Below.grown (hbr.alloc hsz _) hg5 (by simp; omega) (fun q hq => (hD.lt q hq).1); have x5 := cell_on hb5 hcw; have hs5 := hb5.size)
            go_roundw
            case rel => exact ⟨k + 1, A5, dn + 1, c5, false, out ++ [t], by omega, by go_num, rfl, rfl, ho5, Lib.hid ((HA _ _).out HP.out), by omega, hb5⟩
            case measure => simp [intOf]; omega
          · have e4 : Op.bytesLess s.toList t.toList = true := hlx
            have e5 : Op.bytesLess t.toList s.toList = false := ltS_asymm hlx
            have HM := Lib.hid (put_mark HP.out)
            clear hlx
            go_wp2_with (first | (at_builtin; refine wpList_append_sl (enc := encS) rfl _ _ 28 rfl w.heap.size 9 i0 (.string ByteArray.empty) 1 16 Try.underlying28 hi0 hz0 hz1 hz2 rfl (by decide) (.slice D dn dc) dn (out.map Value.string) rfl (hD.alloc _) (some ⟨wr.heap.size, 0, none⟩) 1 1 [s] rfl (fun _ => rfl) (Sl.one (Blk.new _ _ _)) one_S (by unfold maxLen; omega) (by omega) (by simp; omega) ?_; intro v5 w5 ho5 hg5 hl5; obtain ⟨A5, c5, rfl⟩ := own_form ho5; rw [flat_encS, ← List.map_append] at ho5; have hb5 : Below w.heap.size w w5 := Below.grown (hbr.alloc hsz _) hg5 (by simp; omega) (fun q hq => (hD.lt q hq).1); have x5 := cell_on hb5 hcw; have hs5 := hb5.size) | (at_builtin; refine wpList_append_sl (enc := encS) rfl _ _ 28 rfl w.heap.size 9 i0 (.string ByteArray.empty) 1 16 Try.underlying28 hi0 hz0 hz1 hz2 rfl (by decide) (.slice A5 (dn + 1) c5) (dn + 1) ((out ++ [s]).map Value.string) rfl (ho5.alloc _) (some ⟨w5.heap.size, 0, none⟩) 1 1 [t] rfl (fun _ => rfl) (Sl.one (Blk.new _ _ _)) one_S (by unfold maxLen; omega) (by omega) (by simp; omega) ?_; intro v6 w6 ho6 hg6 hl6; obtain ⟨A6, c6, rfl⟩ := own_form ho6; rw [flat_encS, ← List.map_append] at ho6; have hb6 : Below w.heap.size w w6 := Below.grown (hb5.alloc hs5 _) hg6 (by simp; omega) (fun q hq => (ho5.lt q hq).1)))
            go_roundw
            case rel => exact ⟨k + 1, A6, dn + 1 + 1, c6, true, out ++ [s] ++ [t], by omega, by go_num, rfl, rfl, ho6, Lib.hid ((HA _ _).out HM.out), by omega, hb6⟩
            case measure => simp [intOf]; omega
        · clear hlx
          have hdk2 : dn ≤ k + 1 := hdn
          go_wp2_with (at_builtin; refine wpList_append_sl (enc := encS) rfl _ _ 28 rfl w.heap.size 9 i0 (.string ByteArray.empty) 1 16 Try.underlying28 hi0 hz0 hz1 hz2 rfl (by decide) (.slice D dn dc) dn (out.map Value.string) rfl (hD.alloc _) (some ⟨wr.heap.size, 0, none⟩) 1 1 [t] rfl (fun _ => rfl) (Sl.one (Blk.new _ _ _)) one_S (by unfold maxLen; omega) (by omega) (by simp; omega) ?_; intro v5 w5 ho5 hg5 hl5; obtain ⟨A5, c5, rfl⟩ := own_form ho5; rw [flat_encS, ← List.map_append] at ho5; have hb5 : Below w.heap.size w w5 := Below.grown (hbr.alloc hsz _) hg5 (by simp; omega) (fun q hq => (hD.lt q hq).1); have x5 := cell_on hb5 hcw; have hs5 := hb5.size)
          go_roundw
          case rel => exact ⟨k + 1, A5, dn + 1, c5, true, out ++ [t], by omega, by go_num, rfl, rfl, ho5, Lib.hid ((HA _ _).out HP.out), by omega, hb5⟩
          case measure => simp [intOf]; omega
    · have hkn : k = n := by omega
      subst hkn
      cases d
      · have HM := Lib.hid (put_end (put_mark HP.out) (by rw [HL.out]; exact Nat.le_refl _))
        go_wp2_with (at_builtin; refine wpList_append_sl (enc := encS) rfl _ _ 28 rfl w.heap.size 9 i0 (.string ByteArray.empty) 1 16 Try.underlying28 hi0 hz0 hz1 hz2 rfl (by decide) (.slice D dn dc) dn (out.map Value.string) rfl (hD.alloc _) (some ⟨wr.heap.size, 0, none⟩) 1 1 [s] rfl (fun _ => rfl) (Sl.one (Blk.new _ _ _)) one_S (by unfold maxLen; omega) (by omega) (by simp; omega) ?_; intro v5 w5 ho5 hg5 hl5; obtain ⟨A5, c5, rfl⟩ := own_form ho5; rw [flat_encS, ← List.map_append] at ho5; have hb5 : Below w.heap.size w w5 := Below.grown (hbr.alloc hsz _) hg5 (by simp; omega) (fun q hq => (hD.lt q hq).1); have hs5 := hb5.size)
        go_ret
        exact ⟨A5, dn + 1, c5, _, rfl, ho5, HM.out, hb5⟩
      · have HM := Lib.hid (put_end HP.out (by rw [HL.out]; exact Nat.le_refl _))
        go_wp2_with fail
        go_ret
        exact ⟨D, dn, dc, _, rfl, hD, HM.out, hbr⟩

end Go.Proofs.Ytdchfiiaollheaa
