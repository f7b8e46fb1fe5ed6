/- A run of a flow is valid: the walks over both RunValid. -/
import Derived.Test.YtdchfiiaollheaaRuns
namespace Go.Proofs.Ytdchfiiaollheaa
open Go.RowKit

def stateB (l : List Stp) (st : Int) (done : List ByteArray) : Bool :=
  if st = 0 then decide (done.length < l.length) else if st = 2 then decide (done.length = l.length) else if st = 1 then decide (done.length < l.length) && lastU l done else if st = 3 then decide (done.length < l.length) && !lastU l done else false
/-- A run is one of a flow. -/
def runB (v : Int) (l : List Stp) (st : Int) (done : List ByteArray) : Bool := flowB v l && doneB l done && stateB l st done
theorem runB_no1 {v : Int} {l : List Stp} {st : Int} {done : List ByteArray} (h : flowB v l = false) : runB v l st done = false := by simp [runB, h]
theorem runB_no2 {v : Int} {l : List Stp} {st : Int} {done : List ByteArray} (h : doneB l done = false) : runB v l st done = false := by simp [runB, h]
theorem runB_go {v : Int} {l : List Stp} {st : Int} {done : List ByteArray} (h : flowB v l = true) (h2 : doneB l done = true) : runB v l st done = stateB l st done := by simp [runB, h, h2]
theorem runB_iff {v : Int} {l : List Stp} {st : Int} {done : List ByteArray} : runB v l st done = true ↔ flowB v l = true ∧ doneB l done = true ∧ stateB l st done = true := by simp [runB, and_assoc]
theorem st_other {l : List Stp} {st : Int} {done : List ByteArray} (h0 : st ≠ 0) (h2 : st ≠ 2) (h1 : st ≠ 1) (h3 : st ≠ 3) : stateB l st done = false := by simp [stateB, h0, h1, h2, h3]
section
variable {l : List Stp} {done : List ByteArray} {gn n : Nat}
theorem st0 (hg : done.length = gn) (hn : l.length = n) : stateB l 0 done = decide ((gn : Int) < (n : Int)) := by
  simp [stateB, hg, hn]
theorem st0n (hg : done.length = gn) (hn : l.length = n) : stateB l 0 done = decide (gn < n) := by
  simp [stateB, hg, hn]
theorem st2 (hg : done.length = gn) (hn : l.length = n) : stateB l 2 done = ((gn : Int) == (n : Int)) := by
  rw [Bool.eq_iff_iff]; simp [stateB, hg, hn]; omega
theorem st0f (hg : done.length = gn) (hn : l.length = n) (hle : gn ≤ n) : stateB l 0 done = ((0 : Int) == forthI gn n) := by
  rw [st0 hg hn]
  unfold forthI
  by_cases h : gn = n
  · rw [if_pos h, decide_eq_false (by omega)]; rfl
  · rw [if_neg h, decide_eq_true (by omega)]; rfl
theorem st2f (hg : done.length = gn) (hn : l.length = n) : stateB l 2 done = ((2 : Int) == forthI gn n) := by
  unfold stateB forthI
  rw [hg, hn]
  by_cases h : gn = n
  · rw [if_pos h]; simp [h]
  · rw [if_neg h]; simp [h]
theorem st1b (hg : done.length = gn) (hn : l.length = n) (hlt : gn < n) : stateB l 1 done = ((1 : Int) == backI l done) := by
  unfold stateB backI
  rw [hg, hn, decide_eq_true hlt]
  cases lastU l done <;> rfl
theorem st3b (hg : done.length = gn) (hn : l.length = n) (hlt : gn < n) : stateB l 3 done = ((3 : Int) == backI l done) := by
  unfold stateB backI
  rw [hg, hn, decide_eq_true hlt]
  cases lastU l done <;> rfl
theorem st1n (hg : done.length = gn) (hn : l.length = n) (hlt : ¬ gn < n) : stateB l 1 done = false := by
  unfold stateB
  rw [hg, hn, decide_eq_false hlt]; rfl
theorem st3n (hg : done.length = gn) (hn : l.length = n) (hlt : ¬ gn < n) : stateB l 3 done = false := by
  unfold stateB
  rw [hg, hn, decide_eq_false hlt]; rfl
theorem st1s (hg : done.length = gn) (hn : l.length = n) (hlt : gn < n) : stateB l 1 done = decide (firmP l done < gn) := by
  unfold stateB
  rw [hg, hn, decide_eq_true hlt, lastU_firm, hg]
  simp
theorem st3s (hg : done.length = gn) (hn : l.length = n) (hlt : gn < n) : stateB l 3 done = ((firmP l done : Int) == (gn : Int)) := by
  have hle := firmN_le l done done.length
  unfold stateB
  rw [hg, hn, decide_eq_true hlt, lastU_firm, hg]
  rw [hg] at hle
  rw [Bool.eq_iff_iff]
  simp [firmP, hg] at hle ⊢
  omega
end
theorem flow_nodup {v : Int} {l : List Stp} (h : flowB v l = true) : (namesP l).Nodup := asc_nodup (flowB_iff.1 h).2.2.1

set_option maxRecDepth 20000 in
set_option maxHeartbeats 8000000 in
theorem implRunValid_c (v : Int) (A : Option Addr) (n c : Nat) (l : List Stp) (st : Int) (G : Option Addr) (gn gc : Nat) (done : List ByteArray) (w : World) (h : SlP w A n c l) (hz : SzP l) (h' : SlS w G gn gc done) : Calls Try.prog 64 #[.agg #[.int .i64 v, .slice A n c], .agg #[.int .i64 st, .slice G gn gc]] w fun e w' =>
    e = .returned (.bool (runB v l st done)) ∧ Below w.heap.size w w' := by
  have HL := Lib.hid h.len
  have HDL := Lib.hid h'.len
  have hcap := h.cap
  have hmax := h.max
  have hcap' := h'.cap
  have hmax' := h'.max
  have kf := (Blk.new w 25 #[.int .i64 v, .slice A n c]).al (.cells #[.int .i64 st, .slice G gn gc] 40)
  have kr := Blk.new (w.alloc (.cells #[.int .i64 v, .slice A n c] 25)) 40 #[.int .i64 st, .slice G gn gc]
  simp only [World.alloc, Array.size_push] at kr
  have kr : Blk ((w.alloc (.cells #[.int .i64 v, .slice A n c] 25)).alloc (.cells #[.int .i64 st, .slice G gn gc] 40)) (w.heap.size + 1) 40 #[.int .i64 st, .slice G gn gc] := kr
  have hW := bel_al (bel_al (bel_refl w) (.cells #[.int .i64 v, .slice A n c] 25)) (.cells #[.int .i64 st, .slice G gn gc] 40)
  go_enter Try.func64, Try.ntmps64
  go_wp2_with fail
  refine (implFlowValid_c v A n c l _ (h.bel hW) hz).mono ?_
  rintro e w1 ⟨rfl, hb1⟩
  have kf := kf.bel hb1
  have kr := kr.bel hb1
  have hW := bel_nx hW hb1
  clear hb1
  cases hv : flowB v l
  · have HF := Lib.hid (runB_no1 (st := st) (done := done) hv)
    clear hv
    go_wp2_with fail
    go_ret
    exact ⟨ret_bool HF.out.symm, hW⟩
  have HV := Lib.hid hv
  clear hv
  have hn8 : n ≤ 8 := by rw [← HL.out]; exact (flowB_iff.1 HV.out).2.1.2
  have cr := kr.cell
  go_wp2_with fail
  go_loopw [13] (fun iv wr => ∃ i : Nat, i ≤ gn ∧ iv = .int .i64 (i : Int) ∧ Hid (∀ j, j < i → doneAt l done j = true) ∧ Blk wr w.heap.size 25 #[.int .i64 v, .slice A n c] ∧ Blk wr (w.heap.size + 1) 40 #[.int .i64 st, .slice G gn gc] ∧ Below w.heap.size w wr) (fun iv _ => gn - (intOf iv).toNat)
  case atStart => exact ⟨0, Nat.zero_le _, rfl, Lib.hid (fun j hj => by omega), kf, kr, hW⟩
  case round =>
    obtain ⟨i, hi, rfl, H, kfL, krL, hbr⟩ := hrel
    by_cases hlt : i < gn
    · obtain ⟨bd, offd, s, rfl, hs, hd0⟩ := SlS.get h' hlt
      have HS := Lib.hid hs
      clear hs
      have i0 : (0 : Int) ≤ (i : Int) := by omega
      have i1 : (i : Int) < (gn : Int) := by omega
      have i2 : (i : Int) ≤ (gc : Int) := by omega
      have e0 := cell_on hbr hd0
      have ht := h'.take (m := i) (by omega)
      obtain ⟨bi, hbi⟩ : ∃ x, inB (readyP l (done.take i)) s = x := ⟨_, rfl⟩
      have HB := Lib.hid hbi
      have hda := doneAt_ready (l := l) HS.out
      rw [hbi] at hda
      have HDA := Lib.hid hda
      clear hbi hda
      have hn20 : n ≤ 1048576 := by omega
      go_wp2_with fail
      refine wp_region_held_drew (S := (fun w' => w'.cell? ⟨w.heap.size, 0, none⟩ = some (.int .i64 v) ∧ w'.cell? ⟨w.heap.size, 1, none⟩ = some (.slice A n c) ∧ w'.cell? ⟨w.heap.size + 1, 0, none⟩ = some (.int .i64 st) ∧ w'.cell? ⟨w.heap.size + 1, 1, none⟩ = some (.slice (some ⟨bd, offd, none⟩) gn gc) ∧ Blk w' w.heap.size 25 #[.int .i64 v, .slice A n c] ∧ Blk w' (w.heap.size + 1) 40 #[.int .i64 st, .slice (some ⟨bd, offd, none⟩) gn gc] ∧ Below w.heap.size w w')) (by kernel_rfl) ?_ (fun hHeld => ?_)
      · exact ⟨kfL.cell 0, kfL.cell 1, krL.cell 0, krL.cell 1, kfL.dr, krL.dr, bel_dr hbr⟩
      refine wpAnyH_take (i := 0) (v := ?_) rfl (by kernel_rfl) (by kernel_rfl) (by kernel_rfl) (fun _ _ _ h => h) (Or.inl ⟨by kernel_rfl, ?_⟩) (by assumption) ?_
      rotate_left 1
      · intro w' hSw; (try dsimp only at hSw); go_simp; try with_reducible rfl
      simp only [Act.put, List.getElem_toArray, List.getElem_cons_zero, List.setIfInBounds_toArray, List.set_cons_zero, List.set_cons_succ]
      refine wpAnyH_take (i := 1) (v := ?_) rfl (by kernel_rfl) (by kernel_rfl) (by kernel_rfl) (fun _ _ _ h => h) (Or.inl ⟨by kernel_rfl, ?_⟩) (by assumption) ?_
      rotate_left 1
      · intro w' hSw; (try dsimp only at hSw); go_simp; try with_reducible rfl
      simp only [Act.put, List.getElem_toArray, List.getElem_cons_zero, List.getElem_cons_succ, List.setIfInBounds_toArray, List.set_cons_zero, List.set_cons_succ]
      refine wpAnyH_take (i := 2) (v := ?_) rfl (by kernel_rfl) (by kernel_rfl) (by kernel_rfl) (fun _ _ _ h => h) (Or.inl ⟨by kernel_rfl, ?_⟩) (by assumption) ?_
      rotate_left 1
      · intro w' hSw; (try dsimp only at hSw); go_simp; try with_reducible rfl
      simp only [Act.put, List.getElem_toArray, List.getElem_cons_zero, List.getElem_cons_succ, List.setIfInBounds_toArray, List.set_cons_zero, List.set_cons_succ]
      refine wpAnyH_take (i := 3) (v := ?_) rfl (by kernel_rfl) (by kernel_rfl) (by kernel_rfl) (fun _ _ _ h => h) (Or.inl ⟨by kernel_rfl, ?_⟩) (by assumption) ?_
      rotate_left 1
      · intro w' hSw; (try dsimp only at hSw); go_simp; try with_reducible rfl
      simp only [Act.put, List.getElem_toArray, List.getElem_cons_zero, List.getElem_cons_succ, List.setIfInBounds_toArray, List.set_cons_zero, List.set_cons_succ]
      refine wpAnyH_take (i := 4) (v := ?_) rfl (by kernel_rfl) (by kernel_rfl) (by kernel_rfl) (fun _ _ _ h => h) (Or.inl ⟨by kernel_rfl, ?_⟩) (by assumption) ?_
      rotate_left 1
      · intro w' hSw; (try dsimp only at hSw); go_simp; try with_reducible rfl
      simp only [Act.put, List.getElem_toArray, List.getElem_cons_zero, List.getElem_cons_succ, List.setIfInBounds_toArray, List.set_cons_zero, List.set_cons_succ]
      refine wpAnyH_take (i := 6) (v := ?_) rfl (by kernel_rfl) (by kernel_rfl) (by kernel_rfl) (fun _ _ _ h => h) (Or.inl ⟨by kernel_rfl, ?_⟩) (by assumption) ?_
      rotate_left 1
      · intro w' hSw; (try dsimp only at hSw); go_simp; try with_reducible rfl
      simp only [Act.put, List.getElem_toArray, List.getElem_cons_zero, List.getElem_cons_succ, List.setIfInBounds_toArray, List.set_cons_zero, List.set_cons_succ]
      refine wpAnyH_ready (rs := [5]) (by kernel_rfl) (by simp) ?_
      refine AllReadyH.cons rfl (fun K hK => ?_) AllReadyH.nil
      go_simp
      go_at_call 76
      refine (ready_c v A n c l (some ⟨bd, offd, none⟩) i gc (done.take i) _ (h.bel (by go_split_ands; assumption)) (ht.bel (by go_split_ands; assumption)) hn20).mono ?_
      rintro e w5 ⟨E, en, ec, rfl, hE, hb5⟩
      have hEs := SlS.of_own hE
      refine hK.out _ _ ?_ (fun hHeld => ?_)
      · (go_split_ands; exact ⟨cell_on hb5 (by assumption), cell_on hb5 (by assumption), cell_on hb5 (by assumption), cell_on hb5 (by assumption), Blk.bel (by assumption) hb5, Blk.bel (by assumption) hb5, bel_nx (by assumption) hb5⟩)
      clear hK K
      try simp only [Act.put, List.getElem_toArray, List.getElem_cons_zero, List.getElem_cons_succ, List.setIfInBounds_toArray, List.set_cons_zero, List.set_cons_succ]
      refine wpAnyH_ready (rs := [7]) (by kernel_rfl) (by simp) ?_
      refine AllReadyH.cons rfl (fun K hK => ?_) AllReadyH.nil
      go_simp
      go_at_call 83
      refine (contains_b E en ec _ s bi _ hEs HB.out).mono ?_
      rintro e w6 ⟨rfl, rfl⟩
      refine hK.out _ _ ?_ (fun hHeld => ?_)
      · exact hHeld
      clear hK K
      try simp only [Act.put, List.getElem_toArray, List.getElem_cons_zero, List.getElem_cons_succ, List.setIfInBounds_toArray, List.set_cons_zero, List.set_cons_succ]
      refine wpAnyH_take (i := 8) (v := ?_) rfl (by kernel_rfl) (by kernel_rfl) (by kernel_rfl) (fun _ _ _ h => h) (Or.inl ⟨by kernel_rfl, ?_⟩) (by assumption) ?_
      rotate_left 1
      · intro w' hSw; (try dsimp only at hSw); go_simp; try with_reducible rfl
      simp only [Act.put, List.getElem_toArray, List.getElem_cons_zero, List.getElem_cons_succ, List.setIfInBounds_toArray, List.set_cons_zero, List.set_cons_succ]
      refine wpAnyH_done (by kernel_rfl) ?_ _
      go_split_ands
      have hB : Below w.heap.size w w5 := by assumption
      have kF : Blk w5 w.heap.size 25 #[.int .i64 v, .slice A n c] := by assumption
      have kR : Blk w5 (w.heap.size + 1) 40 #[.int .i64 st, .slice (some ⟨bd, offd, none⟩) gn gc] := by assumption
      cases bi
      · have HF := Lib.hid (runB_no2 (v := v) (st := st) (doneB_no (by rw [HDL.out]; exact hlt) HDA.out))
        go_wp2_with fail
        go_ret
        exact ⟨ret_bool HF.out.symm, hB⟩
      · have HN := Lib.hid (upto_done H.out HDA.out)
        go_wp2_with fail
        go_roundw
        case rel => exact ⟨i + 1, by omega, by go_num, HN, kF, kR, hB⟩
        case measure => simp [intOf]; omega
    · have hdb : doneB l done = true := doneB_iff.2 (fun j hj => H.out j (by rw [HDL.out] at hj; omega))
      have hle : gn ≤ n := by rw [← HDL.out, ← HL.out]; exact done_len hdb
      have HG := Lib.hid (runB_go (st := st) HV.out hdb)
      have HDN := Lib.hid (done_names hdb)
      clear hdb
      have cf := kfL.cell
      have cr := krL.cell
      by_cases s0 : st = 0
      · subst s0
        have HF := Lib.hid (HG.out.trans (st0f HDL.out HL.out hle))
        go_wp2_with fail
        refine wp_region_held_drew (S := (fun w' => w'.cell? ⟨w.heap.size, 0, none⟩ = some (.int .i64 v) ∧ w'.cell? ⟨w.heap.size, 1, none⟩ = some (.slice A n c) ∧ w'.cell? ⟨w.heap.size + 1, 0, none⟩ = some (.int .i64 0) ∧ w'.cell? ⟨w.heap.size + 1, 1, none⟩ = some (.slice G gn gc) ∧ Blk w' w.heap.size 25 #[.int .i64 v, .slice A n c] ∧ Blk w' (w.heap.size + 1) 40 #[.int .i64 0, .slice G gn gc] ∧ Below w.heap.size w w')) (by kernel_rfl) ?_ (fun hHeld => ?_)
        · exact ⟨kfL.cell 0, kfL.cell 1, krL.cell 0, krL.cell 1, kfL.dr, krL.dr, bel_dr hbr⟩
        refine wpAnyH_take (i := 0) (v := ?_) rfl (by kernel_rfl) (by kernel_rfl) (by kernel_rfl) (fun _ _ _ h => h) (Or.inl ⟨by kernel_rfl, ?_⟩) (by assumption) ?_
        rotate_left 1
        · intro w' hSw; (try dsimp only at hSw); go_simp; try with_reducible rfl
        simp only [Act.put, List.getElem_toArray, List.getElem_cons_zero, List.setIfInBounds_toArray, List.set_cons_zero, List.set_cons_succ]
        refine wpAnyH_take (i := 1) (v := ?_) rfl (by kernel_rfl) (by kernel_rfl) (by kernel_rfl) (fun _ _ _ h => h) (Or.inl ⟨by kernel_rfl, ?_⟩) (by assumption) ?_
        rotate_left 1
        · intro w' hSw; (try dsimp only at hSw); go_simp; try with_reducible rfl
        simp only [Act.put, List.getElem_toArray, List.getElem_cons_zero, List.getElem_cons_succ, List.setIfInBounds_toArray, List.set_cons_zero, List.set_cons_succ]
        refine wpAnyH_take (i := 2) (v := ?_) rfl (by kernel_rfl) (by kernel_rfl) (by kernel_rfl) (fun _ _ _ h => h) (Or.inl ⟨by kernel_rfl, ?_⟩) (by assumption) ?_
        rotate_left 1
        · intro w' hSw; (try dsimp only at hSw); go_simp; try with_reducible rfl
        simp only [Act.put, List.getElem_toArray, List.getElem_cons_zero, List.getElem_cons_succ, List.setIfInBounds_toArray, List.set_cons_zero, List.set_cons_succ]
        refine wpAnyH_take (i := 3) (v := ?_) rfl (by kernel_rfl) (by kernel_rfl) (by kernel_rfl) (fun _ _ _ h => h) (Or.inl ⟨by kernel_rfl, ?_⟩) (by assumption) ?_
        rotate_left 1
        · intro w' hSw; (try dsimp only at hSw); go_simp; try with_reducible rfl
        simp only [Act.put, List.getElem_toArray, List.getElem_cons_zero, List.getElem_cons_succ, List.setIfInBounds_toArray, List.set_cons_zero, List.set_cons_succ]
        refine wpAnyH_take (i := 4) (v := ?_) rfl (by kernel_rfl) (by kernel_rfl) (by kernel_rfl) (fun _ _ _ h => h) (Or.inl ⟨by kernel_rfl, ?_⟩) (by assumption) ?_
        rotate_left 1
        · intro w' hSw; (try dsimp only at hSw); go_simp; try with_reducible rfl
        simp only [Act.put, List.getElem_toArray, List.getElem_cons_zero, List.getElem_cons_succ, List.setIfInBounds_toArray, List.set_cons_zero, List.set_cons_succ]
        refine wpAnyH_ready (rs := [5]) (by kernel_rfl) (by simp) ?_
        refine AllReadyH.cons rfl (fun K hK => ?_) AllReadyH.nil
        go_simp
        go_at_call 75
        refine (forth_c v A n c G gn gc _).mono ?_
        rintro e w5 ⟨rfl, hb5⟩
        refine hK.out _ _ ?_ (fun hHeld => ?_)
        · (go_split_ands; exact ⟨cell_on hb5 (by assumption), cell_on hb5 (by assumption), cell_on hb5 (by assumption), cell_on hb5 (by assumption), Blk.bel (by assumption) hb5, Blk.bel (by assumption) hb5, bel_nx (by assumption) hb5⟩)
        clear hK K
        try simp only [Act.put, List.getElem_toArray, List.getElem_cons_zero, List.getElem_cons_succ, List.setIfInBounds_toArray, List.set_cons_zero, List.set_cons_succ]
        refine wpAnyH_take (i := 6) (v := ?_) rfl (by kernel_rfl) (by kernel_rfl) (by kernel_rfl) (fun _ _ _ h => h) (Or.inl ⟨by kernel_rfl, ?_⟩) (by assumption) ?_
        rotate_left 1
        · intro w' hSw; (try dsimp only at hSw); go_simp; try with_reducible rfl
        simp only [Act.put, List.getElem_toArray, List.getElem_cons_zero, List.getElem_cons_succ, List.setIfInBounds_toArray, List.set_cons_zero, List.set_cons_succ]
        refine wpAnyH_take (i := 7) (v := ?_) rfl (by kernel_rfl) (by kernel_rfl) (by kernel_rfl) (fun _ _ _ h => h) (Or.inl ⟨by kernel_rfl, ?_⟩) (by assumption) ?_
        rotate_left 1
        · intro w' hSw; (try dsimp only at hSw); go_simp; try with_reducible rfl
        simp only [Act.put, List.getElem_toArray, List.getElem_cons_zero, List.getElem_cons_succ, List.setIfInBounds_toArray, List.set_cons_zero, List.set_cons_succ]
        refine wpAnyH_done (by kernel_rfl) ?_ _
        go_split_ands
        have hB : Below w.heap.size w w5 := by assumption
        go_wp2_with fail
        go_ret
        exact ⟨ret_bool HF.out.symm, hB⟩
      have n0 : (st == 0) = false := by simpa using s0
      by_cases s2 : st = 2
      · subst s2
        have HF := Lib.hid (HG.out.trans (st2f HDL.out HL.out))
        go_wp2_with fail
        refine wp_region_held_drew (S := (fun w' => w'.cell? ⟨w.heap.size, 0, none⟩ = some (.int .i64 v) ∧ w'.cell? ⟨w.heap.size, 1, none⟩ = some (.slice A n c) ∧ w'.cell? ⟨w.heap.size + 1, 0, none⟩ = some (.int .i64 2) ∧ w'.cell? ⟨w.heap.size + 1, 1, none⟩ = some (.slice G gn gc) ∧ Blk w' w.heap.size 25 #[.int .i64 v, .slice A n c] ∧ Blk w' (w.heap.size + 1) 40 #[.int .i64 2, .slice G gn gc] ∧ Below w.heap.size w w')) (by kernel_rfl) ?_ (fun hHeld => ?_)
        · exact ⟨kfL.cell 0, kfL.cell 1, krL.cell 0, krL.cell 1, kfL.dr, krL.dr, bel_dr hbr⟩
        refine wpAnyH_take (i := 0) (v := ?_) rfl (by kernel_rfl) (by kernel_rfl) (by kernel_rfl) (fun _ _ _ h => h) (Or.inl ⟨by kernel_rfl, ?_⟩) (by assumption) ?_
        rotate_left 1
        · intro w' hSw; (try dsimp only at hSw); go_simp; try with_reducible rfl
        simp only [Act.put, List.getElem_toArray, List.getElem_cons_zero, List.setIfInBounds_toArray, List.set_cons_zero, List.set_cons_succ]
        refine wpAnyH_take (i := 1) (v := ?_) rfl (by kernel_rfl) (by kernel_rfl) (by kernel_rfl) (fun _ _ _ h => h) (Or.inl ⟨by kernel_rfl, ?_⟩) (by assumption) ?_
        rotate_left 1
        · intro w' hSw; (try dsimp only at hSw); go_simp; try with_reducible rfl
        simp only [Act.put, List.getElem_toArray, List.getElem_cons_zero, List.getElem_cons_succ, List.setIfInBounds_toArray, List.set_cons_zero, List.set_cons_succ]
        refine wpAnyH_take (i := 2) (v := ?_) rfl (by kernel_rfl) (by kernel_rfl) (by kernel_rfl) (fun _ _ _ h => h) (Or.inl ⟨by kernel_rfl, ?_⟩) (by assumption) ?_
        rotate_left 1
        · intro w' hSw; (try dsimp only at hSw); go_simp; try with_reducible rfl
        simp only [Act.put, List.getElem_toArray, List.getElem_cons_zero, List.getElem_cons_succ, List.setIfInBounds_toArray, List.set_cons_zero, List.set_cons_succ]
        refine wpAnyH_take (i := 3) (v := ?_) rfl (by kernel_rfl) (by kernel_rfl) (by kernel_rfl) (fun _ _ _ h => h) (Or.inl ⟨by kernel_rfl, ?_⟩) (by assumption) ?_
        rotate_left 1
        · intro w' hSw; (try dsimp only at hSw); go_simp; try with_reducible rfl
        simp only [Act.put, List.getElem_toArray, List.getElem_cons_zero, List.getElem_cons_succ, List.setIfInBounds_toArray, List.set_cons_zero, List.set_cons_succ]
        refine wpAnyH_take (i := 4) (v := ?_) rfl (by kernel_rfl) (by kernel_rfl) (by kernel_rfl) (fun _ _ _ h => h) (Or.inl ⟨by kernel_rfl, ?_⟩) (by assumption) ?_
        rotate_left 1
        · intro w' hSw; (try dsimp only at hSw); go_simp; try with_reducible rfl
        simp only [Act.put, List.getElem_toArray, List.getElem_cons_zero, List.getElem_cons_succ, List.setIfInBounds_toArray, List.set_cons_zero, List.set_cons_succ]
        refine wpAnyH_ready (rs := [5]) (by kernel_rfl) (by simp) ?_
        refine AllReadyH.cons rfl (fun K hK => ?_) AllReadyH.nil
        go_simp
        go_at_call 75
        refine (forth_c v A n c G gn gc _).mono ?_
        rintro e w5 ⟨rfl, hb5⟩
        refine hK.out _ _ ?_ (fun hHeld => ?_)
        · (go_split_ands; exact ⟨cell_on hb5 (by assumption), cell_on hb5 (by assumption), cell_on hb5 (by assumption), cell_on hb5 (by assumption), Blk.bel (by assumption) hb5, Blk.bel (by assumption) hb5, bel_nx (by assumption) hb5⟩)
        clear hK K
        try simp only [Act.put, List.getElem_toArray, List.getElem_cons_zero, List.getElem_cons_succ, List.setIfInBounds_toArray, List.set_cons_zero, List.set_cons_succ]
        refine wpAnyH_take (i := 6) (v := ?_) rfl (by kernel_rfl) (by kernel_rfl) (by kernel_rfl) (fun _ _ _ h => h) (Or.inl ⟨by kernel_rfl, ?_⟩) (by assumption) ?_
        rotate_left 1
        · intro w' hSw; (try dsimp only at hSw); go_simp; try with_reducible rfl
        simp only [Act.put, List.getElem_toArray, List.getElem_cons_zero, List.getElem_cons_succ, List.setIfInBounds_toArray, List.set_cons_zero, List.set_cons_succ]
        refine wpAnyH_take (i := 7) (v := ?_) rfl (by kernel_rfl) (by kernel_rfl) (by kernel_rfl) (fun _ _ _ h => h) (Or.inl ⟨by kernel_rfl, ?_⟩) (by assumption) ?_
        rotate_left 1
        · intro w' hSw; (try dsimp only at hSw); go_simp; try with_reducible rfl
        simp only [Act.put, List.getElem_toArray, List.getElem_cons_zero, List.getElem_cons_succ, List.setIfInBounds_toArray, List.set_cons_zero, List.set_cons_succ]
        refine wpAnyH_done (by kernel_rfl) ?_ _
        go_split_ands
        have hB : Below w.heap.size w w5 := by assumption
        go_wp2_with fail
        go_ret
        exact ⟨ret_bool HF.out.symm, hB⟩
      have n2 : (st == 2) = false := by simpa using s2
      by_cases s1 : st = 1
      · subst s1
        by_cases hgn : gn < n
        · have HF := Lib.hid (HG.out.trans (st1b HDL.out HL.out hgn))
          have dg : decide ((gn : Int) < (n : Int)) = true := decide_eq_true (by omega)
          go_wp2_with fail
          refine wp_region_held_drew (S := (fun w' => w'.cell? ⟨w.heap.size, 0, none⟩ = some (.int .i64 v) ∧ w'.cell? ⟨w.heap.size, 1, none⟩ = some (.slice A n c) ∧ w'.cell? ⟨w.heap.size + 1, 0, none⟩ = some (.int .i64 1) ∧ w'.cell? ⟨w.heap.size + 1, 1, none⟩ = some (.slice G gn gc) ∧ Blk w' w.heap.size 25 #[.int .i64 v, .slice A n c] ∧ Blk w' (w.heap.size + 1) 40 #[.int .i64 1, .slice G gn gc] ∧ Below w.heap.size w w')) (by kernel_rfl) ?_ (fun hHeld => ?_)
          · exact ⟨kfL.cell 0, kfL.cell 1, krL.cell 0, krL.cell 1, kfL.dr, krL.dr, bel_dr hbr⟩
          refine wpAnyH_take (i := 0) (v := ?_) rfl (by kernel_rfl) (by kernel_rfl) (by kernel_rfl) (fun _ _ _ h => h) (Or.inl ⟨by kernel_rfl, ?_⟩) (by assumption) ?_
          rotate_left 1
          · intro w' hSw; (try dsimp only at hSw); go_simp; try with_reducible rfl
          simp only [Act.put, List.getElem_toArray, List.getElem_cons_zero, List.setIfInBounds_toArray, List.set_cons_zero, List.set_cons_succ]
          refine wpAnyH_take (i := 1) (v := ?_) rfl (by kernel_rfl) (by kernel_rfl) (by kernel_rfl) (fun _ _ _ h => h) (Or.inl ⟨by kernel_rfl, ?_⟩) (by assumption) ?_
          rotate_left 1
          · intro w' hSw; (try dsimp only at hSw); go_simp; try with_reducible rfl
          simp only [Act.put, List.getElem_toArray, List.getElem_cons_zero, List.getElem_cons_succ, List.setIfInBounds_toArray, List.set_cons_zero, List.set_cons_succ]
          refine wpAnyH_take (i := 2) (v := ?_) rfl (by kernel_rfl) (by kernel_rfl) (by kernel_rfl) (fun _ _ _ h => h) (Or.inl ⟨by kernel_rfl, ?_⟩) (by assumption) ?_
          rotate_left 1
          · intro w' hSw; (try dsimp only at hSw); go_simp; try with_reducible rfl
          simp only [Act.put, List.getElem_toArray, List.getElem_cons_zero, List.getElem_cons_succ, List.setIfInBounds_toArray, List.set_cons_zero, List.set_cons_succ]
          refine wpAnyH_take (i := 3) (v := ?_) rfl (by kernel_rfl) (by kernel_rfl) (by kernel_rfl) (fun _ _ _ h => h) (Or.inl ⟨by kernel_rfl, ?_⟩) (by assumption) ?_
          rotate_left 1
          · intro w' hSw; (try dsimp only at hSw); go_simp; try with_reducible rfl
          simp only [Act.put, List.getElem_toArray, List.getElem_cons_zero, List.getElem_cons_succ, List.setIfInBounds_toArray, List.set_cons_zero, List.set_cons_succ]
          refine wpAnyH_take (i := 4) (v := ?_) rfl (by kernel_rfl) (by kernel_rfl) (by kernel_rfl) (fun _ _ _ h => h) (Or.inl ⟨by kernel_rfl, ?_⟩) (by assumption) ?_
          rotate_left 1
          · intro w' hSw; (try dsimp only at hSw); go_simp; try with_reducible rfl
          simp only [Act.put, List.getElem_toArray, List.getElem_cons_zero, List.getElem_cons_succ, List.setIfInBounds_toArray, List.set_cons_zero, List.set_cons_succ]
          refine wpAnyH_take (i := 5) (v := ?_) rfl (by kernel_rfl) (by kernel_rfl) (by kernel_rfl) (fun _ _ _ h => h) (Or.inl ⟨by kernel_rfl, ?_⟩) (by assumption) ?_
          rotate_left 1
          · intro w' hSw; (try dsimp only at hSw); go_simp; try with_reducible rfl
          simp only [Act.put, List.getElem_toArray, List.getElem_cons_zero, List.getElem_cons_succ, List.setIfInBounds_toArray, List.set_cons_zero, List.set_cons_succ]
          refine wpAnyH_take (i := 6) (v := ?_) rfl (by kernel_rfl) (by kernel_rfl) (by kernel_rfl) (fun _ _ _ h => h) (Or.inl ⟨by kernel_rfl, ?_⟩) (by assumption) ?_
          rotate_left 1
          · intro w' hSw; (try dsimp only at hSw); go_simp; try with_reducible rfl
          simp only [Act.put, List.getElem_toArray, List.getElem_cons_zero, List.getElem_cons_succ, List.setIfInBounds_toArray, List.set_cons_zero, List.set_cons_succ]
          refine wpAnyH_take (i := 7) (v := ?_) rfl (by kernel_rfl) (by kernel_rfl) (by kernel_rfl) (fun _ _ _ h => h) (Or.inl ⟨by kernel_rfl, ?_⟩) (by assumption) ?_
          rotate_left 1
          · intro w' hSw; (try dsimp only at hSw); go_simp; try with_reducible rfl
          simp only [Act.put, List.getElem_toArray, List.getElem_cons_zero, List.getElem_cons_succ, List.setIfInBounds_toArray, List.set_cons_zero, List.set_cons_succ]
          refine wpAnyH_take (i := 8) (v := ?_) rfl (by kernel_rfl) (by kernel_rfl) (by kernel_rfl) (fun _ _ _ h => h) (Or.inl ⟨by kernel_rfl, ?_⟩) (by assumption) ?_
          rotate_left 1
          · intro w' hSw; (try dsimp only at hSw); go_simp; try with_reducible rfl
          simp only [Act.put, List.getElem_toArray, List.getElem_cons_zero, List.getElem_cons_succ, List.setIfInBounds_toArray, List.set_cons_zero, List.set_cons_succ]
          refine wpAnyH_take (i := 9) (v := ?_) rfl (by kernel_rfl) (by kernel_rfl) (by kernel_rfl) (fun _ _ _ h => h) (Or.inl ⟨by kernel_rfl, ?_⟩) (by assumption) ?_
          rotate_left 1
          · intro w' hSw; (try dsimp only at hSw); go_simp; try with_reducible rfl
          simp only [Act.put, List.getElem_toArray, List.getElem_cons_zero, List.getElem_cons_succ, List.setIfInBounds_toArray, List.set_cons_zero, List.set_cons_succ]
          refine wpAnyH_take (i := 10) (v := ?_) rfl (by kernel_rfl) (by kernel_rfl) (by kernel_rfl) (fun _ _ _ h => h) (Or.inl ⟨by kernel_rfl, ?_⟩) (by assumption) ?_
          rotate_left 1
          · intro w' hSw; (try dsimp only at hSw); go_simp; try with_reducible rfl
          simp only [Act.put, List.getElem_toArray, List.getElem_cons_zero, List.getElem_cons_succ, List.setIfInBounds_toArray, List.set_cons_zero, List.set_cons_succ]
          refine wpAnyH_take (i := 11) (v := ?_) rfl (by kernel_rfl) (by kernel_rfl) (by kernel_rfl) (fun _ _ _ h => h) (Or.inl ⟨by kernel_rfl, ?_⟩) (by assumption) ?_
          rotate_left 1
          · intro w' hSw; (try dsimp only at hSw); go_simp; try with_reducible rfl
          simp only [Act.put, List.getElem_toArray, List.getElem_cons_zero, List.getElem_cons_succ, List.setIfInBounds_toArray, List.set_cons_zero, List.set_cons_succ]
          refine wpAnyH_take (i := 12) (v := ?_) rfl (by kernel_rfl) (by kernel_rfl) (by kernel_rfl) (fun _ _ _ h => h) (Or.inl ⟨by kernel_rfl, ?_⟩) (by assumption) ?_
          rotate_left 1
          · intro w' hSw; (try dsimp only at hSw); go_simp; try with_reducible rfl
          simp only [Act.put, List.getElem_toArray, List.getElem_cons_zero, List.getElem_cons_succ, List.setIfInBounds_toArray, List.set_cons_zero, List.set_cons_succ]
          refine wpAnyH_ready (rs := [13]) (by kernel_rfl) (by simp) ?_
          refine AllReadyH.cons rfl (fun K hK => ?_) AllReadyH.nil
          go_simp
          go_at_call 77
          refine (back_c v A n c l G gn gc done _ (h.bel (by go_split_ands; assumption)) (h'.bel (by go_split_ands; assumption)) HDN.out).mono ?_
          rintro e w5 ⟨rfl, hb5⟩
          refine hK.out _ _ ?_ (fun hHeld => ?_)
          · (go_split_ands; exact ⟨cell_on hb5 (by assumption), cell_on hb5 (by assumption), cell_on hb5 (by assumption), cell_on hb5 (by assumption), Blk.bel (by assumption) hb5, Blk.bel (by assumption) hb5, bel_nx (by assumption) hb5⟩)
          clear hK K
          try simp only [Act.put, List.getElem_toArray, List.getElem_cons_zero, List.getElem_cons_succ, List.setIfInBounds_toArray, List.set_cons_zero, List.set_cons_succ]
          refine wpAnyH_take (i := 14) (v := ?_) rfl (by kernel_rfl) (by kernel_rfl) (by kernel_rfl) (fun _ _ _ h => h) (Or.inl ⟨by kernel_rfl, ?_⟩) (by assumption) ?_
          rotate_left 1
          · intro w' hSw; (try dsimp only at hSw); go_simp; try with_reducible rfl
          simp only [Act.put, List.getElem_toArray, List.getElem_cons_zero, List.getElem_cons_succ, List.setIfInBounds_toArray, List.set_cons_zero, List.set_cons_succ]
          refine wpAnyH_take (i := 15) (v := ?_) rfl (by kernel_rfl) (by kernel_rfl) (by kernel_rfl) (fun _ _ _ h => h) (Or.inl ⟨by kernel_rfl, ?_⟩) (by assumption) ?_
          rotate_left 1
          · intro w' hSw; (try dsimp only at hSw); go_simp; try with_reducible rfl
          simp only [Act.put, List.getElem_toArray, List.getElem_cons_zero, List.getElem_cons_succ, List.setIfInBounds_toArray, List.set_cons_zero, List.set_cons_succ]
          refine wpAnyH_take (i := 16) (v := ?_) rfl (by kernel_rfl) (by kernel_rfl) (by kernel_rfl) (fun _ _ _ h => h) (Or.inl ⟨by kernel_rfl, ?_⟩) (by assumption) ?_
          rotate_left 1
          · intro w' hSw; (try dsimp only at hSw); go_simp; try with_reducible rfl
          simp only [Act.put, List.getElem_toArray, List.getElem_cons_zero, List.getElem_cons_succ, List.setIfInBounds_toArray, List.set_cons_zero, List.set_cons_succ]
          refine wpAnyH_done (by kernel_rfl) ?_ _
          go_split_ands
          have hB : Below w.heap.size w w5 := by assumption
          go_wp2_with fail
          go_ret
          exact ⟨ret_bool HF.out.symm, hB⟩
        · have HF := Lib.hid (HG.out.trans (st1n HDL.out HL.out hgn))
          have dg : decide ((gn : Int) < (n : Int)) = false := decide_eq_false (by omega)
          go_wp2_with fail
          go_quiet (fail)
          go_wp2_with fail
          go_ret
          exact ⟨ret_bool HF.out.symm, by (repeat' first | assumption | exact bel_refl _ | refine bel_al ?_ _ | refine bel_dr ?_ | refine bel_drN ?_ _ | refine bel_nx ?_ (by assumption) | (refine bel_set ?_ (by first | omega | (simp; omega)) _))⟩
      have n1 : (st == 1) = false := by simpa using s1
      by_cases s3 : st = 3
      · subst s3
        by_cases hgn : gn < n
        · have HF := Lib.hid (HG.out.trans (st3b HDL.out HL.out hgn))
          have dg : decide ((gn : Int) < (n : Int)) = true := decide_eq_true (by omega)
          go_wp2_with fail
          refine wp_region_held_drew (S := (fun w' => w'.cell? ⟨w.heap.size, 0, none⟩ = some (.int .i64 v) ∧ w'.cell? ⟨w.heap.size, 1, none⟩ = some (.slice A n c) ∧ w'.cell? ⟨w.heap.size + 1, 0, none⟩ = some (.int .i64 3) ∧ w'.cell? ⟨w.heap.size + 1, 1, none⟩ = some (.slice G gn gc) ∧ Blk w' w.heap.size 25 #[.int .i64 v, .slice A n c] ∧ Blk w' (w.heap.size + 1) 40 #[.int .i64 3, .slice G gn gc] ∧ Below w.heap.size w w')) (by kernel_rfl) ?_ (fun hHeld => ?_)
          · exact ⟨kfL.cell 0, kfL.cell 1, krL.cell 0, krL.cell 1, kfL.dr, krL.dr, bel_dr hbr⟩
          refine wpAnyH_take (i := 0) (v := ?_) rfl (by kernel_rfl) (by kernel_rfl) (by kernel_rfl) (fun _ _ _ h => h) (Or.inl ⟨by kernel_rfl, ?_⟩) (by assumption) ?_
          rotate_left 1
          · intro w' hSw; (try dsimp only at hSw); go_simp; try with_reducible rfl
          simp only [Act.put, List.getElem_toArray, List.getElem_cons_zero, List.setIfInBounds_toArray, List.set_cons_zero, List.set_cons_succ]
          refine wpAnyH_take (i := 1) (v := ?_) rfl (by kernel_rfl) (by kernel_rfl) (by kernel_rfl) (fun _ _ _ h => h) (Or.inl ⟨by kernel_rfl, ?_⟩) (by assumption) ?_
          rotate_left 1
          · intro w' hSw; (try dsimp only at hSw); go_simp; try with_reducible rfl
          simp only [Act.put, List.getElem_toArray, List.getElem_cons_zero, List.getElem_cons_succ, List.setIfInBounds_toArray, List.set_cons_zero, List.set_cons_succ]
          refine wpAnyH_take (i := 2) (v := ?_) rfl (by kernel_rfl) (by kernel_rfl) (by kernel_rfl) (fun _ _ _ h => h) (Or.inl ⟨by kernel_rfl, ?_⟩) (by assumption) ?_
          rotate_left 1
          · intro w' hSw; (try dsimp only at hSw); go_simp; try with_reducible rfl
          simp only [Act.put, List.getElem_toArray, List.getElem_cons_zero, List.getElem_cons_succ, List.setIfInBounds_toArray, List.set_cons_zero, List.set_cons_succ]
          refine wpAnyH_take (i := 3) (v := ?_) rfl (by kernel_rfl) (by kernel_rfl) (by kernel_rfl) (fun _ _ _ h => h) (Or.inl ⟨by kernel_rfl, ?_⟩) (by assumption) ?_
          rotate_left 1
          · intro w' hSw; (try dsimp only at hSw); go_simp; try with_reducible rfl
          simp only [Act.put, List.getElem_toArray, List.getElem_cons_zero, List.getElem_cons_succ, List.setIfInBounds_toArray, List.set_cons_zero, List.set_cons_succ]
          refine wpAnyH_take (i := 4) (v := ?_) rfl (by kernel_rfl) (by kernel_rfl) (by kernel_rfl) (fun _ _ _ h => h) (Or.inl ⟨by kernel_rfl, ?_⟩) (by assumption) ?_
          rotate_left 1
          · intro w' hSw; (try dsimp only at hSw); go_simp; try with_reducible rfl
          simp only [Act.put, List.getElem_toArray, List.getElem_cons_zero, List.getElem_cons_succ, List.setIfInBounds_toArray, List.set_cons_zero, List.set_cons_succ]
          refine wpAnyH_take (i := 5) (v := ?_) rfl (by kernel_rfl) (by kernel_rfl) (by kernel_rfl) (fun _ _ _ h => h) (Or.inl ⟨by kernel_rfl, ?_⟩) (by assumption) ?_
          rotate_left 1
          · intro w' hSw; (try dsimp only at hSw); go_simp; try with_reducible rfl
          simp only [Act.put, List.getElem_toArray, List.getElem_cons_zero, List.getElem_cons_succ, List.setIfInBounds_toArray, List.set_cons_zero, List.set_cons_succ]
          refine wpAnyH_take (i := 6) (v := ?_) rfl (by kernel_rfl) (by kernel_rfl) (by kernel_rfl) (fun _ _ _ h => h) (Or.inl ⟨by kernel_rfl, ?_⟩) (by assumption) ?_
          rotate_left 1
          · intro w' hSw; (try dsimp only at hSw); go_simp; try with_reducible rfl
          simp only [Act.put, List.getElem_toArray, List.getElem_cons_zero, List.getElem_cons_succ, List.setIfInBounds_toArray, List.set_cons_zero, List.set_cons_succ]
          refine wpAnyH_take (i := 7) (v := ?_) rfl (by kernel_rfl) (by kernel_rfl) (by kernel_rfl) (fun _ _ _ h => h) (Or.inl ⟨by kernel_rfl, ?_⟩) (by assumption) ?_
          rotate_left 1
          · intro w' hSw; (try dsimp only at hSw); go_simp; try with_reducible rfl
          simp only [Act.put, List.getElem_toArray, List.getElem_cons_zero, List.getElem_cons_succ, List.setIfInBounds_toArray, List.set_cons_zero, List.set_cons_succ]
          refine wpAnyH_take (i := 8) (v := ?_) rfl (by kernel_rfl) (by kernel_rfl) (by kernel_rfl) (fun _ _ _ h => h) (Or.inl ⟨by kernel_rfl, ?_⟩) (by assumption) ?_
          rotate_left 1
          · intro w' hSw; (try dsimp only at hSw); go_simp; try with_reducible rfl
          simp only [Act.put, List.getElem_toArray, List.getElem_cons_zero, List.getElem_cons_succ, List.setIfInBounds_toArray, List.set_cons_zero, List.set_cons_succ]
          refine wpAnyH_take (i := 9) (v := ?_) rfl (by kernel_rfl) (by kernel_rfl) (by kernel_rfl) (fun _ _ _ h => h) (Or.inl ⟨by kernel_rfl, ?_⟩) (by assumption) ?_
          rotate_left 1
          · intro w' hSw; (try dsimp only at hSw); go_simp; try with_reducible rfl
          simp only [Act.put, List.getElem_toArray, List.getElem_cons_zero, List.getElem_cons_succ, List.setIfInBounds_toArray, List.set_cons_zero, List.set_cons_succ]
          refine wpAnyH_take (i := 10) (v := ?_) rfl (by kernel_rfl) (by kernel_rfl) (by kernel_rfl) (fun _ _ _ h => h) (Or.inl ⟨by kernel_rfl, ?_⟩) (by assumption) ?_
          rotate_left 1
          · intro w' hSw; (try dsimp only at hSw); go_simp; try with_reducible rfl
          simp only [Act.put, List.getElem_toArray, List.getElem_cons_zero, List.getElem_cons_succ, List.setIfInBounds_toArray, List.set_cons_zero, List.set_cons_succ]
          refine wpAnyH_take (i := 11) (v := ?_) rfl (by kernel_rfl) (by kernel_rfl) (by kernel_rfl) (fun _ _ _ h => h) (Or.inl ⟨by kernel_rfl, ?_⟩) (by assumption) ?_
          rotate_left 1
          · intro w' hSw; (try dsimp only at hSw); go_simp; try with_reducible rfl
          simp only [Act.put, List.getElem_toArray, List.getElem_cons_zero, List.getElem_cons_succ, List.setIfInBounds_toArray, List.set_cons_zero, List.set_cons_succ]
          refine wpAnyH_take (i := 12) (v := ?_) rfl (by kernel_rfl) (by kernel_rfl) (by kernel_rfl) (fun _ _ _ h => h) (Or.inl ⟨by kernel_rfl, ?_⟩) (by assumption) ?_
          rotate_left 1
          · intro w' hSw; (try dsimp only at hSw); go_simp; try with_reducible rfl
          simp only [Act.put, List.getElem_toArray, List.getElem_cons_zero, List.getElem_cons_succ, List.setIfInBounds_toArray, List.set_cons_zero, List.set_cons_succ]
          refine wpAnyH_ready (rs := [13]) (by kernel_rfl) (by simp) ?_
          refine AllReadyH.cons rfl (fun K hK => ?_) AllReadyH.nil
          go_simp
          go_at_call 77
          refine (back_c v A n c l G gn gc done _ (h.bel (by go_split_ands; assumption)) (h'.bel (by go_split_ands; assumption)) HDN.out).mono ?_
          rintro e w5 ⟨rfl, hb5⟩
          refine hK.out _ _ ?_ (fun hHeld => ?_)
          · (go_split_ands; exact ⟨cell_on hb5 (by assumption), cell_on hb5 (by assumption), cell_on hb5 (by assumption), cell_on hb5 (by assumption), Blk.bel (by assumption) hb5, Blk.bel (by assumption) hb5, bel_nx (by assumption) hb5⟩)
          clear hK K
          try simp only [Act.put, List.getElem_toArray, List.getElem_cons_zero, List.getElem_cons_succ, List.setIfInBounds_toArray, List.set_cons_zero, List.set_cons_succ]
          refine wpAnyH_take (i := 14) (v := ?_) rfl (by kernel_rfl) (by kernel_rfl) (by kernel_rfl) (fun _ _ _ h => h) (Or.inl ⟨by kernel_rfl, ?_⟩) (by assumption) ?_
          rotate_left 1
          · intro w' hSw; (try dsimp only at hSw); go_simp; try with_reducible rfl
          simp only [Act.put, List.getElem_toArray, List.getElem_cons_zero, List.getElem_cons_succ, List.setIfInBounds_toArray, List.set_cons_zero, List.set_cons_succ]
          refine wpAnyH_take (i := 15) (v := ?_) rfl (by kernel_rfl) (by kernel_rfl) (by kernel_rfl) (fun _ _ _ h => h) (Or.inl ⟨by kernel_rfl, ?_⟩) (by assumption) ?_
          rotate_left 1
          · intro w' hSw; (try dsimp only at hSw); go_simp; try with_reducible rfl
          simp only [Act.put, List.getElem_toArray, List.getElem_cons_zero, List.getElem_cons_succ, List.setIfInBounds_toArray, List.set_cons_zero, List.set_cons_succ]
          refine wpAnyH_take (i := 16) (v := ?_) rfl (by kernel_rfl) (by kernel_rfl) (by kernel_rfl) (fun _ _ _ h => h) (Or.inl ⟨by kernel_rfl, ?_⟩) (by assumption) ?_
          rotate_left 1
          · intro w' hSw; (try dsimp only at hSw); go_simp; try with_reducible rfl
          simp only [Act.put, List.getElem_toArray, List.getElem_cons_zero, List.getElem_cons_succ, List.setIfInBounds_toArray, List.set_cons_zero, List.set_cons_succ]
          refine wpAnyH_done (by kernel_rfl) ?_ _
          go_split_ands
          have hB : Below w.heap.size w w5 := by assumption
          go_wp2_with fail
          go_ret
          exact ⟨ret_bool HF.out.symm, hB⟩
        · have HF := Lib.hid (HG.out.trans (st3n HDL.out HL.out hgn))
          have dg : decide ((gn : Int) < (n : Int)) = false := decide_eq_false (by omega)
          go_wp2_with fail
          go_quiet (fail)
          go_wp2_with fail
          go_ret
          exact ⟨ret_bool HF.out.symm, by (repeat' first | assumption | exact bel_refl _ | refine bel_al ?_ _ | refine bel_dr ?_ | refine bel_drN ?_ _ | refine bel_nx ?_ (by assumption) | (refine bel_set ?_ (by first | omega | (simp; omega)) _))⟩
      have n3 : (st == 3) = false := by simpa using s3
      have HF := Lib.hid (HG.out.trans (st_other s0 s2 s1 s3))
      go_wp2_with fail
      go_ret
      exact ⟨ret_bool HF.out.symm, hbr⟩

theorem l3Left_q (A : Option Addr) (n c : Nat) (l : List Stp) (G : Option Addr) (gn gc : Nat) (done : List ByteArray) (w : World) (h : SlP w A n c l) (h' : SlS w G gn gc done) (hd : ∀ s ∈ done, s ∈ namesP l) : Calls Try.prog 67 #[.slice A n c, .slice G gn gc] w fun e w' =>
    e = .returned (.int .i64 (firmP l done : Nat)) ∧ w' = w :=
  (l3Left_c A n c l G gn gc done w h h' hd).mono fun _ _ ⟨h1, h2⟩ => ⟨h1, h2.symm⟩

set_option maxRecDepth 20000 in
set_option maxHeartbeats 4000000 in
theorem specRunValid_c (v : Int) (A : Option Addr) (n c : Nat) (l : List Stp) (st : Int) (G : Option Addr) (gn gc : Nat) (done : List ByteArray) (w : World) (h : SlP w A n c l) (hz : SzP l) (hn : n ≤ 1048576) (h' : SlS w G gn gc done) : Calls Try.prog 25 #[.agg #[.int .i64 v, .slice A n c], .agg #[.int .i64 st, .slice G gn gc]] w fun e w' =>
    e = .returned (.bool (runB v l st done)) ∧ Below w.heap.size w w' := by
  have HL := Lib.hid h.len
  have HDL := Lib.hid h'.len
  have hcap := h.cap
  have hmax := h.max
  have hcap' := h'.cap
  have hmax' := h'.max
  have kf := (Blk.new w 25 #[.int .i64 v, .slice A n c]).al (.cells #[.int .i64 st, .slice G gn gc] 40)
  have kr := Blk.new (w.alloc (.cells #[.int .i64 v, .slice A n c] 25)) 40 #[.int .i64 st, .slice G gn gc]
  simp only [World.alloc, Array.size_push] at kr
  have kr : Blk ((w.alloc (.cells #[.int .i64 v, .slice A n c] 25)).alloc (.cells #[.int .i64 st, .slice G gn gc] 40)) (w.heap.size + 1) 40 #[.int .i64 st, .slice G gn gc] := kr
  have hW := bel_al (bel_al (bel_refl w) (.cells #[.int .i64 v, .slice A n c] 25)) (.cells #[.int .i64 st, .slice G gn gc] 40)
  go_enter Try.func25, Try.ntmps25
  go_wp2_with fail
  refine (specFlowValid_c v A n c l _ (h.bel hW) hz hn).mono ?_
  rintro e w1 ⟨rfl, hb1⟩
  have kf := kf.bel hb1
  have kr := kr.bel hb1
  have hW := bel_nx hW hb1
  clear hb1
  cases hv : flowB v l
  · have HF := Lib.hid (runB_no1 (st := st) (done := done) hv)
    clear hv
    go_wp2_with fail
    go_ret
    exact ⟨ret_bool HF.out.symm, hW⟩
  have HV := Lib.hid hv
  have HND := Lib.hid (flow_nodup hv)
  clear hv
  have cf := kf.cell
  have cr := kr.cell
  go_wp2_with fail
  refine (l3Order_c A n c l G gn gc done _ (h.bel hW) (h'.bel hW) HND.out).mono ?_
  rintro e w2 ⟨rfl, hb2⟩
  have kf := kf.bel hb2
  have kr := kr.bel hb2
  have hW := bel_nx hW hb2
  clear hb2 cf cr
  have cf := kf.cell
  have cr := kr.cell
  cases hdb : doneB l done
  · have HF := Lib.hid (runB_no2 (v := v) (st := st) hdb)
    clear hdb
    go_wp2_with fail
    go_ret
    exact ⟨ret_bool HF.out.symm, hW⟩
  have hle : gn ≤ n := by rw [← HDL.out, ← HL.out]; exact done_len hdb
  have HG := Lib.hid (runB_go (st := st) HV.out hdb)
  have HDN := Lib.hid (done_names hdb)
  have hWL := hW
  clear hdb
  by_cases s0 : st = 0
  · subst s0
    have HF := Lib.hid (HG.out.trans (st0n HDL.out HL.out))
    go_wp2_with fail
    go_ret
    exact ⟨ret_bool HF.out.symm, hWL⟩
  have n0 : (st == 0) = false := by simpa using s0
  by_cases s2 : st = 2
  · subst s2
    have HF := Lib.hid (HG.out.trans (st2 HDL.out HL.out))
    go_wp2_with fail
    go_ret
    exact ⟨ret_bool HF.out.symm, hWL⟩
  have n2 : (st == 2) = false := by simpa using s2
  by_cases s1 : st = 1
  · subst s1
    by_cases hgn : gn < n
    · have HF := Lib.hid (HG.out.trans (st1s HDL.out HL.out hgn))
      have dg : decide ((gn : Int) < (n : Int)) = true := decide_eq_true (by omega)
      have hpp := h.bel hWL
      have hqq := h'.bel hWL
      go_wp2_with fail
      go_quiet ((go_at_call 67; exact Calls.quiet_of_same (l3Left_q _ _ _ l _ _ _ done _ (hpp.drN _) (hqq.drN _) HDN.out)))
      go_wp2_with fail
      go_ret
      exact ⟨ret_bool HF.out.symm, by (repeat' first | assumption | exact bel_refl _ | refine bel_al ?_ _ | refine bel_dr ?_ | refine bel_drN ?_ _ | refine bel_nx ?_ (by assumption) | (refine bel_set ?_ (by first | omega | (simp; omega)) _))⟩
    · have HF := Lib.hid (HG.out.trans (st1n HDL.out HL.out hgn))
      have dg : decide ((gn : Int) < (n : Int)) = false := decide_eq_false (by omega)
      go_wp2_with fail
      go_quiet (fail)
      go_wp2_with fail
      go_ret
      exact ⟨ret_bool HF.out.symm, by (repeat' first | assumption | exact bel_refl _ | refine bel_al ?_ _ | refine bel_dr ?_ | refine bel_drN ?_ _ | refine bel_nx ?_ (by assumption) | (refine bel_set ?_ (by first | omega | (simp; omega)) _))⟩
  have n1 : (st == 1) = false := by simpa using s1
  by_cases s3 : st = 3
  · subst s3
    by_cases hgn : gn < n
    · have HF := Lib.hid (HG.out.trans (st3s HDL.out HL.out hgn))
      have dg : decide ((gn : Int) < (n : Int)) = true := decide_eq_true (by omega)
      have hpp := h.bel hWL
      have hqq := h'.bel hWL
      go_wp2_with fail
      go_quiet ((go_at_call 67; exact Calls.quiet_of_same (l3Left_q _ _ _ l _ _ _ done _ (hpp.drN _) (hqq.drN _) HDN.out)))
      go_wp2_with fail
      go_ret
      exact ⟨ret_bool HF.out.symm, by (repeat' first | assumption | exact bel_refl _ | refine bel_al ?_ _ | refine bel_dr ?_ | refine bel_drN ?_ _ | refine bel_nx ?_ (by assumption) | (refine bel_set ?_ (by first | omega | (simp; omega)) _))⟩
    · have HF := Lib.hid (HG.out.trans (st3n HDL.out HL.out hgn))
      have dg : decide ((gn : Int) < (n : Int)) = false := decide_eq_false (by omega)
      go_wp2_with fail
      go_quiet (fail)
      go_wp2_with fail
      go_ret
      exact ⟨ret_bool HF.out.symm, by (repeat' first | assumption | exact bel_refl _ | refine bel_al ?_ _ | refine bel_dr ?_ | refine bel_drN ?_ _ | refine bel_nx ?_ (by assumption) | (refine bel_set ?_ (by first | omega | (simp; omega)) _))⟩
  have n3 : (st == 3) = false := by simpa using s3
  have HF := Lib.hid (HG.out.trans (st_other s0 s2 s1 s3))
  go_wp2_with fail
  go_ret
  exact ⟨ret_bool HF.out.symm, hWL⟩

end Go.Proofs.Ytdchfiiaollheaa
