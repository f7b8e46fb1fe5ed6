/- What would be undone: the walks over both UndoPlan. -/
import Derived.Test.YtdchfiiaollheaaUndo1
namespace Go.Proofs.Ytdchfiiaollheaa
open Go.RowKit

/-- What would be undone, the last one first. -/
def planP (v : Int) (l : List Stp) (st : Int) (done : List ByteArray) : List ByteArray := if (runB v l st done && decide (st ≠ 2)) = true then (done.drop (firmP l done)).reverse else []
theorem planP_no1 {v : Int} {l : List Stp} {st : Int} {done : List ByteArray} (h : runB v l st done = false) : planP v l st done = [] := by simp [planP, h]
theorem planP_no2 {v : Int} {l : List Stp} {done : List ByteArray} : planP v l 2 done = [] := by simp [planP]
theorem planP_yes {v : Int} {l : List Stp} {st : Int} {done : List ByteArray} (h : runB v l st done = true) (h2 : st ≠ 2) : planP v l st done = (done.drop (firmP l done)).reverse := by simp [planP, h, h2]
theorem firm_z (v : Int) (A : Option Addr) (n c : Nat) (l : List Stp) (G : Option Addr) (gn gc : Nat) (done : List ByteArray) (f : Nat) (w : World) (h : SlP w A n c l) (h' : SlS w G gn gc done) (hd : ∀ s ∈ done, s ∈ namesP l) (hf : firmP l done = f) : Calls Try.prog 69 #[.agg #[.int .i64 v, .slice A n c], .slice G gn gc] w fun e w' =>
    e = .returned (.int .i64 (f : Nat)) ∧ Below w.heap.size w w' := by
  rw [← hf]; exact firm_c v A n c l G gn gc done w h h' hd
theorem l3Left_z (A : Option Addr) (n c : Nat) (l : List Stp) (G : Option Addr) (gn gc : Nat) (done : List ByteArray) (f : Nat) (w : World) (h : SlP w A n c l) (h' : SlS w G gn gc done) (hd : ∀ s ∈ done, s ∈ namesP l) (hf : firmP l done = f) : Calls Try.prog 67 #[.slice A n c, .slice G gn gc] w fun e w' =>
    e = .returned (.int .i64 (f : Nat)) ∧ w = w' := by
  rw [← hf]; exact l3Left_c A n c l G gn gc done w h h' hd
theorem rev_drop {done : List ByteArray} {j : Nat} {s : ByteArray} (h : done[j]? = some s) : (done.drop j).reverse = (done.drop (j + 1)).reverse ++ [s] := by
  obtain ⟨hl, rfl⟩ := List.getElem?_eq_some_iff.1 h
  rw [List.drop_eq_getElem_cons hl, List.reverse_cons]

set_option maxRecDepth 20000 in
set_option maxHeartbeats 4000000 in
theorem implUndoPlan_c (v : Int) (A : Option Addr) (n c : Nat) (l : List Stp) (st : Int) (G : Option Addr) (gn gc : Nat) (done : List ByteArray) (w : World) (h : SlP w A n c l) (hz : SzP l) (_hn : n ≤ 1048576) (h' : SlS w G gn gc done) (hgn : gn ≤ 1048576) : Calls Try.prog 35 #[.agg #[.int .i64 v, .slice A n c], .agg #[.int .i64 st, .slice G gn gc]] w fun e w' =>
    ∃ D dn dc, e = .returned (.slice D dn dc) ∧ w'.ownsRow w.heap.size 9 1 (.slice D dn dc) dn ((planP v l st done).map Value.string) ∧ Below w.heap.size w w' := by
  have HL := Lib.hid h.len
  have HDL := Lib.hid h'.len
  have hcap := h.cap
  have hmax := h.max
  have hcap' := h'.cap
  have hmax' := h'.max
  have kf := (Blk.new w 25 #[.int .i64 v, .slice A n c]).al (.cells #[.int .i64 st, .slice G gn gc] 40)
  have kr := Blk.new (w.alloc (.cells #[.int .i64 v, .slice A n c] 25)) 40 #[.int .i64 st, .slice G gn gc]
  simp only [World.alloc, Array.size_push] at kr
  have kr : Blk ((w.alloc (.cells #[.int .i64 v, .slice A n c] 25)).alloc (.cells #[.int .i64 st, .slice G gn gc] 40)) (w.heap.size + 1) 40 #[.int .i64 st, .slice G gn gc] := kr
  have hW := bel_al (bel_al (bel_refl w) (.cells #[.int .i64 v, .slice A n c] 25)) (.cells #[.int .i64 st, .slice G gn gc] 40)
  go_enter Try.func35, Try.ntmps35
  go_wp2_with fail
  obtain ⟨i0, hi0, hz0, hz1, hz2⟩ := info_parts str_info
  refine (implRunValid_c v A n c l st G gn gc done _ (h.bel hW) hz (h'.bel hW)).mono ?_
  rintro e w1 ⟨rfl, hb1⟩
  have kfV := kf.bel hb1
  have krV := kr.bel hb1
  have hWV := bel_nx hW hb1
  clear hb1
  have cf := kfV.cell
  have cr := krV.cell
  have hszV := hWV.size
  cases hv : runB v l st done
  · have HF := Lib.hid (planP_no1 hv)
    clear hv
    go_wp2_with fail
    go_ret
    rw [HF.out]
    exact ⟨none, 0, 0, rfl, World.ownsRow_nil _ _ _ _, hWV⟩
  have HV := Lib.hid hv
  have HDN := Lib.hid (done_names (runB_iff.1 hv).2.1)
  clear hv
  by_cases h2 : st = 2
  · have HF : Hid (planP v l st done = []) := Lib.hid (by rw [h2]; exact planP_no2)
    have e2 : (st == 2) = true := by simpa using h2
    clear h2
    go_wp2_with fail
    go_ret
    rw [HF.out]
    exact ⟨none, 0, 0, rfl, World.ownsRow_nil _ _ _ _, hWV⟩
  have HF := Lib.hid (planP_yes HV.out h2)
  have e2 : (st == 2) = false := by simpa using h2
  clear h2
  have hfl : firmP l done ≤ gn := by rw [← HDL.out]; exact firmN_le _ _ _
  obtain ⟨f, hf⟩ : ∃ f, firmP l done = f := ⟨_, rfl⟩
  rw [hf] at hfl
  have HFI := Lib.hid hf
  clear hf
  have hw1 : IntKind.i64.wrap ((gn : Int) - 1) = (gn : Int) - 1 := by rw [IntKind.wrap_i64]; omega
  go_wp2_with fail
  go_loopw [5, 6] (fun ov iv wr => ∃ (q dn dc : Nat) (D : Option Addr), q ≤ gn ∧ f ≤ q ∧ iv = .int .i64 ((q : Int) - 1) ∧ ov = .slice D dn dc ∧ dn ≤ gn ∧ dn + q = gn ∧ wr.ownsRow (w.heap.size + 2) 9 1 (.slice D dn dc) dn (((done.drop q).reverse).map Value.string) ∧ Blk wr w.heap.size 25 #[.int .i64 v, .slice A n c] ∧ Blk wr (w.heap.size + 1) 40 #[.int .i64 st, .slice G gn gc] ∧ Below w.heap.size w wr) (fun _ iv _ => (intOf iv + 1).toNat)
  case atStart => exact ⟨gn, 0, 0, none, Nat.le_refl _, hfl, rfl, rfl, by omega, by omega, by rw [List.drop_eq_nil_of_le (by rw [HDL.out]; exact Nat.le_refl _)]; exact World.ownsRow_nil _ _ _ _, kfV, krV, hWV⟩
  case round =>
    obtain ⟨q, dn, dc, D, hq, hfq, rfl, rfl, hdn, hdq, hD, kfL, krL, hbr⟩ := hrel
    have hkl := krL.lt
    have cfL := kfL.cell
    have crL := krL.cell
    have hsz := hbr.size
    go_wp2_with fail
    refine (firm_z v A n c l G gn gc done f _ (h.bel hbr) (h'.bel hbr) HDN.out HFI.out).mono ?_
    rintro e w2 ⟨rfl, hb2⟩
    have hD2 := own_bel hD hb2
    have kf2 := kfL.bel hb2
    have kr2 := krL.bel hb2
    have hbr2 := bel_nx hbr hb2
    clear cfL crL
    have cf2 := kf2.cell
    have cr2 := kr2.cell
    have hkl2 := kr2.lt
    by_cases hlt : f < q
    · obtain ⟨j, rfl⟩ : ∃ j, q = j + 1 := ⟨q - 1, by omega⟩
      obtain ⟨bd, offd, s, hGd, hs, hd0⟩ := SlS.get h' (i := j) (by omega)
      subst hGd
      have HR := Lib.hid (rev_drop hs)
      clear hs
      have e0 := cell_on hbr2 hd0
      have j0 : (0 : Int) ≤ (j : Int) := by omega
      have j1 : (j : Int) < (gn : Int) := by omega
      have ej : ((j + 1 : Nat) : Int) - 1 = (j : Int) := by omega
      have dj : decide ((f : Int) ≤ (j : Int)) = true := decide_eq_true (by omega)
      have dj2 : decide ((f : Int) ≤ ((j + 1 : Nat) : Int) - 1) = true := decide_eq_true (by omega)
      have hwj : IntKind.i64.wrap ((j : Int) - 1) = (j : Int) - 1 := by rw [IntKind.wrap_i64]; omega
      go_wp2_with (at_builtin; refine wpList_append_sl (enc := encS) rfl _ _ 28 rfl (w.heap.size + 2) 9 i0 (.string ByteArray.empty) 1 16 Try.underlying28 hi0 hz0 hz1 hz2 rfl (by decide) (.slice D dn dc) dn (((done.drop (j + 1)).reverse).map Value.string) rfl (hD2.alloc _) (some ⟨w2.heap.size, 0, none⟩) 1 1 [s] rfl (fun _ => rfl) (Sl.one (Blk.new _ _ _)) one_S (by unfold maxLen; omega) (by omega) (by simp; omega) ?_; intro v5 w5 ho5 hg5 hl5; obtain ⟨A5, c5, rfl⟩ := own_form ho5; rw [flat_encS, ← List.map_append] at ho5)
      have hg := (World.grownBy_alloc w2 _ _).trans hg5
      go_roundw
      case rel => exact ⟨j, dn + 1, c5, A5, by omega, by omega, rfl, rfl, by omega, by omega, by rw [HR.out]; exact ho5, kf2.gr hg (fun e => by have := (hD2.lt _ e.symm).1; omega), kr2.gr hg (fun e => by have := (hD2.lt _ e.symm).1; omega), hbr2.grown hg hbr2.size (fun k hk => by have := (hD2.lt k hk).1; omega)⟩
      case measure => (simp [intOf]) <;> omega
    · obtain rfl : f = q := by omega
      have dq : decide ((f : Int) ≤ (f : Int) - 1) = false := decide_eq_false (by omega)
      go_wp2_with fail
      go_ret
      rw [HF.out, HFI.out]
      exact ⟨D, dn, dc, rfl, ownsRow_base hD2 (by omega), hbr2⟩

set_option maxRecDepth 20000 in
set_option maxHeartbeats 4000000 in
theorem specUndoPlan_c (v : Int) (A : Option Addr) (n c : Nat) (l : List Stp) (st : Int) (G : Option Addr) (gn gc : Nat) (done : List ByteArray) (w : World) (h : SlP w A n c l) (hz : SzP l) (hn : n ≤ 1048576) (h' : SlS w G gn gc done) (hgn : gn ≤ 1048576) : Calls Try.prog 36 #[.agg #[.int .i64 v, .slice A n c], .agg #[.int .i64 st, .slice G gn gc]] w fun e w' =>
    ∃ D dn dc, e = .returned (.slice D dn dc) ∧ w'.ownsRow w.heap.size 9 1 (.slice D dn dc) dn ((planP v l st done).map Value.string) ∧ Below w.heap.size w w' := by
  have HL := Lib.hid h.len
  have HDL := Lib.hid h'.len
  have hcap := h.cap
  have hmax := h.max
  have hcap' := h'.cap
  have hmax' := h'.max
  have kf := (Blk.new w 25 #[.int .i64 v, .slice A n c]).al (.cells #[.int .i64 st, .slice G gn gc] 40)
  have kr := Blk.new (w.alloc (.cells #[.int .i64 v, .slice A n c] 25)) 40 #[.int .i64 st, .slice G gn gc]
  simp only [World.alloc, Array.size_push] at kr
  have kr : Blk ((w.alloc (.cells #[.int .i64 v, .slice A n c] 25)).alloc (.cells #[.int .i64 st, .slice G gn gc] 40)) (w.heap.size + 1) 40 #[.int .i64 st, .slice G gn gc] := kr
  have hW := bel_al (bel_al (bel_refl w) (.cells #[.int .i64 v, .slice A n c] 25)) (.cells #[.int .i64 st, .slice G gn gc] 40)
  go_enter Try.func36, Try.ntmps36
  go_wp2_with fail
  obtain ⟨i0, hi0, hz0, hz1, hz2⟩ := info_parts str_info
  have kf := kf.al (.cells #[] 9)
  have kr := kr.al (.cells #[] 9)
  obtain ⟨wa, hwa⟩ : ∃ wa : World, wa = (w.alloc (.cells #[.int .i64 v, .slice A n c] 25)).alloc (.cells #[.int .i64 st, .slice G gn gc] 40) := ⟨_, rfl⟩
  have hT := texts_new wa
  have hsa : wa.heap.size = w.heap.size + 2 := by rw [hwa]; simp
  rw [hsa, hwa] at hT
  have hT := ownsRow_base (B' := w.heap.size + 2) hT (Nat.le_refl _)
  have hW := bel_al hW (.cells #[] 9)
  clear hwa hsa
  refine (specRunValid_c v A n c l st G gn gc done _ (h.bel hW) hz hn (h'.bel hW)).mono ?_
  rintro e w1 ⟨rfl, hb1⟩
  have kfV := kf.bel hb1
  have krV := kr.bel hb1
  have hWV := bel_nx hW hb1
  have hTV := own_bel hT hb1
  clear hb1
  have cf := kfV.cell
  have cr := krV.cell
  have hszV := hWV.size
  cases hv : runB v l st done
  · have HF := Lib.hid (planP_no1 hv)
    clear hv
    go_wp2_with fail
    go_ret
    rw [HF.out]
    exact ⟨_, 0, 0, rfl, ownsRow_base hTV (by omega), hWV⟩
  have HV := Lib.hid hv
  have HDN := Lib.hid (done_names (runB_iff.1 hv).2.1)
  clear hv
  by_cases h2 : st = 2
  · have HF : Hid (planP v l st done = []) := Lib.hid (by rw [h2]; exact planP_no2)
    have e2 : (st == 2) = true := by simpa using h2
    clear h2
    go_wp2_with fail
    go_ret
    rw [HF.out]
    exact ⟨_, 0, 0, rfl, ownsRow_base hTV (by omega), hWV⟩
  have HF := Lib.hid (planP_yes HV.out h2)
  have e2 : (st == 2) = false := by simpa using h2
  clear h2
  have hfl : firmP l done ≤ gn := by rw [← HDL.out]; exact firmN_le _ _ _
  obtain ⟨f, hf⟩ : ∃ f, firmP l done = f := ⟨_, rfl⟩
  rw [hf] at hfl
  have HFI := Lib.hid hf
  clear hf
  have hw1 : IntKind.i64.wrap ((gn : Int) - 1) = (gn : Int) - 1 := by rw [IntKind.wrap_i64]; omega
  go_wp2_with fail
  refine (l3Left_z A n c l G gn gc done f _ (h.bel hWV) (h'.bel hWV) HDN.out HFI.out).mono ?_
  rintro e w2 ⟨rfl, rfl⟩
  go_wp2_with fail
  go_loopw [5, 7] (fun ov iv wr => ∃ (q dn dc : Nat) (D : Option Addr), q ≤ gn ∧ f ≤ q ∧ iv = .int .i64 ((q : Int) - 1) ∧ ov = .slice D dn dc ∧ dn ≤ gn ∧ dn + q = gn ∧ wr.ownsRow (w.heap.size + 2) 9 1 (.slice D dn dc) dn (((done.drop q).reverse).map Value.string) ∧ Blk wr w.heap.size 25 #[.int .i64 v, .slice A n c] ∧ Blk wr (w.heap.size + 1) 40 #[.int .i64 st, .slice G gn gc] ∧ Below w.heap.size w wr) (fun _ iv _ => (intOf iv + 1).toNat)
  case atStart => exact ⟨gn, 0, _, _, Nat.le_refl _, hfl, rfl, rfl, by omega, by omega, by rw [List.drop_eq_nil_of_le (by rw [HDL.out]; exact Nat.le_refl _)]; exact hTV, kfV, krV, hWV⟩
  case round =>
    obtain ⟨q, dn, dc, D, hq, hfq, rfl, rfl, hdn, hdq, hD, kfL, krL, hbr⟩ := hrel
    have hkl := krL.lt
    have cfL := kfL.cell
    have crL := krL.cell
    have hsz := hbr.size
    obtain ⟨w2, hw2⟩ : ∃ w2 : World, w2 = wr := ⟨_, rfl⟩
    subst hw2
    have hD2 := hD
    have kf2 := kfL
    have kr2 := krL
    have hbr2 := hbr
    have hkl2 := kr2.lt
    by_cases hlt : f < q
    · obtain ⟨j, rfl⟩ : ∃ j, q = j + 1 := ⟨q - 1, by omega⟩
      obtain ⟨bd, offd, s, hGd, hs, hd0⟩ := SlS.get h' (i := j) (by omega)
      subst hGd
      have HR := Lib.hid (rev_drop hs)
      clear hs
      have e0 := cell_on hbr2 hd0
      have j0 : (0 : Int) ≤ (j : Int) := by omega
      have j1 : (j : Int) < (gn : Int) := by omega
      have ej : ((j + 1 : Nat) : Int) - 1 = (j : Int) := by omega
      have dj : decide ((f : Int) ≤ (j : Int)) = true := decide_eq_true (by omega)
      have dj2 : decide ((f : Int) ≤ ((j + 1 : Nat) : Int) - 1) = true := decide_eq_true (by omega)
      have hwj : IntKind.i64.wrap ((j : Int) - 1) = (j : Int) - 1 := by rw [IntKind.wrap_i64]; omega
      go_wp2_with (at_builtin; refine wpList_append_sl (enc := encS) rfl _ _ 28 rfl (w.heap.size + 2) 9 i0 (.string ByteArray.empty) 1 16 Try.underlying28 hi0 hz0 hz1 hz2 rfl (by decide) (.slice D dn dc) dn (((done.drop (j + 1)).reverse).map Value.string) rfl (hD2.alloc _) (some ⟨w2.heap.size, 0, none⟩) 1 1 [s] rfl (fun _ => rfl) (Sl.one (Blk.new _ _ _)) one_S (by unfold maxLen; omega) (by omega) (by simp; omega) ?_; intro v5 w5 ho5 hg5 hl5; obtain ⟨A5, c5, rfl⟩ := own_form ho5; rw [flat_encS, ← List.map_append] at ho5)
      have hg := (World.grownBy_alloc w2 _ _).trans hg5
      go_roundw
      case rel => exact ⟨j, dn + 1, c5, A5, by omega, by omega, rfl, rfl, by omega, by omega, by rw [HR.out]; exact ho5, kf2.gr hg (fun e => by have := (hD2.lt _ e.symm).1; omega), kr2.gr hg (fun e => by have := (hD2.lt _ e.symm).1; omega), hbr2.grown hg hbr2.size (fun k hk => by have := (hD2.lt k hk).1; omega)⟩
      case measure => (simp [intOf]) <;> omega
    · obtain rfl : f = q := by omega
      have dq : decide ((f : Int) ≤ (f : Int) - 1) = false := decide_eq_false (by omega)
      go_wp2_with fail
      go_ret
      rw [HF.out, HFI.out]
      exact ⟨D, dn, dc, rfl, ownsRow_base hD2 (by omega), hbr2⟩

end Go.Proofs.Ytdchfiiaollheaa
