/- What stays when all is undone from the end, and the first step that can not be undone: the walks over both UndoPoint and UndoLeft. -/
import Derived.Test.YtdchfiiaollheaaRunValid
import Derived.Deep.RegionLaw
namespace Go.Proofs.Ytdchfiiaollheaa
open Go.RowKit

/-- The first name whose step can not be undone. -/
def pointL (l : List Stp) : List ByteArray → ByteArray
  | [] => ⟨#[]⟩
  | s :: r => if undoB l s = true then pointL l r else s
def pointP (v : Int) (l : List Stp) (st : Int) (done : List ByteArray) : ByteArray := if runB v l st done = true then pointL l done else ⟨#[]⟩
theorem pointP_no {v : Int} {l : List Stp} {st : Int} {done : List ByteArray} (h : runB v l st done = false) : pointP v l st done = ⟨#[]⟩ := by simp [pointP, h]
theorem pointP_yes {v : Int} {l : List Stp} {st : Int} {done : List ByteArray} (h : runB v l st done = true) : pointP v l st done = pointL l done := by simp [pointP, h]
theorem pointL_go {l : List Stp} {done : List ByteArray} {i : Nat} {s : ByteArray} (h : done[i]? = some s) (hu : undoB l s = true) : pointL l (done.drop i) = pointL l (done.drop (i + 1)) := by
  obtain ⟨hl, rfl⟩ := List.getElem?_eq_some_iff.1 h
  rw [List.drop_eq_getElem_cons hl, pointL, if_pos hu]
theorem pointL_stop {l : List Stp} {done : List ByteArray} {i : Nat} {s : ByteArray} (h : done[i]? = some s) (hu : undoB l s = false) : pointL l (done.drop i) = s := by
  obtain ⟨hl, rfl⟩ := List.getElem?_eq_some_iff.1 h
  rw [List.drop_eq_getElem_cons hl, pointL, if_neg (by rw [hu]; simp)]
theorem pointL_end {l : List Stp} {done : List ByteArray} {i : Nat} (h : done.length ≤ i) : pointL l (done.drop i) = ⟨#[]⟩ := by rw [List.drop_eq_nil_of_le h]; rfl
theorem flowAt_z (v : Int) (A : Option Addr) (n c : Nat) (l : List Stp) (s : ByteArray) (z : Int) (w : World) (h : SlP w A n c l) (hz : atS (namesP l) s = z) : Calls Try.prog 65 #[.agg #[.int .i64 v, .slice A n c], .string s] w fun e w' =>
    e = .returned (.int .i64 z) ∧ Below w.heap.size w w' := by
  rw [← hz]; exact flowAt_c v A n c l s w h

set_option maxRecDepth 20000 in
set_option maxHeartbeats 4000000 in
theorem implUndoPoint_c (v : Int) (A : Option Addr) (n c : Nat) (l : List Stp) (st : Int) (G : Option Addr) (gn gc : Nat) (done : List ByteArray) (w : World) (h : SlP w A n c l) (hz : SzP l) (_hn : n ≤ 1048576) (h' : SlS w G gn gc done) : Calls Try.prog 23 #[.agg #[.int .i64 v, .slice A n c], .agg #[.int .i64 st, .slice G gn gc]] w fun e w' =>
    e = .returned (.string (pointP v l st done)) ∧ Below w.heap.size w w' := by
  have HL := Lib.hid h.len
  have HDL := Lib.hid h'.len
  have hcap := h.cap
  have hmax := h.max
  have hcap' := h'.cap
  have hmax' := h'.max
  have kf := (Blk.new w 25 #[.int .i64 v, .slice A n c]).al (.cells #[.int .i64 st, .slice G gn gc] 40)
  have kr := Blk.new (w.alloc (.cells #[.int .i64 v, .slice A n c] 25)) 40 #[.int .i64 st, .slice G gn gc]
  simp only [World.alloc, Array.size_push] at kr
  have kr : Blk ((w.alloc (.cells #[.int .i64 v, .slice A n c] 25)).alloc (.cells #[.int .i64 st, .slice G gn gc] 40)) (w.heap.size + 1) 40 #[.int .i64 st, .slice G gn gc] := kr
  have hW := bel_al (bel_al (bel_refl w) (.cells #[.int .i64 v, .slice A n c] 25)) (.cells #[.int .i64 st, .slice G gn gc] 40)
  go_enter Try.func23, Try.ntmps23
  go_wp2_with fail
  refine (implRunValid_c v A n c l st G gn gc done _ (h.bel hW) hz (h'.bel hW)).mono ?_
  rintro e w1 ⟨rfl, hb1⟩
  have kfV := kf.bel hb1
  have krV := kr.bel hb1
  have hWV := bel_nx hW hb1
  clear hb1
  have cf := kfV.cell
  have cr := krV.cell
  cases hv : runB v l st done
  · have HF := Lib.hid (pointP_no hv)
    clear hv
    go_wp2_with fail
    go_ret
    exact ⟨ret_str HF.out.symm, hWV⟩
  have HF := Lib.hid (pointP_yes hv)
  have HDN := Lib.hid (done_names (runB_iff.1 hv).2.1)
  clear hv
  go_wp2_with fail
  go_loopw [14] (fun iv wr => ∃ i : Nat, i ≤ gn ∧ iv = .int .i64 (i : Int) ∧ Hid (pointL l (done.drop i) = pointL l done) ∧ Blk wr w.heap.size 25 #[.int .i64 v, .slice A n c] ∧ Blk wr (w.heap.size + 1) 40 #[.int .i64 st, .slice G gn gc] ∧ Below w.heap.size w wr) (fun iv _ => gn - (intOf iv).toNat)
  case atStart => exact ⟨0, Nat.zero_le _, rfl, Lib.hid (by simp), kfV, krV, hWV⟩
  case round =>
    obtain ⟨i, hi, rfl, HP, kfL, krL, hbr⟩ := hrel
    by_cases hlt : i < gn
    · obtain ⟨bd, offd, s, hGd, hs, hd0⟩ := SlS.get h' hlt
      subst hGd
      have hmem := HDN.out s (List.mem_of_getElem? hs)
      obtain ⟨k, af, u, hat, hkl, hp, hun⟩ := atP hmem
      obtain ⟨b, off, nm, B, m, d, af2, u2, rfl, hx, hc0, hc1, hc2, haf⟩ := SlP.get h (i := k) (by rw [← HL.out]; exact hkl)
      rw [hp] at hx
      obtain ⟨rfl, rfl, rfl⟩ : s = nm ∧ af = af2 ∧ u = u2 := by simpa using hx
      have hkn : k < n := by rw [← HL.out]; exact hkl
      have HS := Lib.hid hs
      have HU := Lib.hid hun
      have HAT := Lib.hid hat
      clear hmem hat hkl hp hun hx hs haf
      have q0 : (0 : Int) ≤ (k : Int) := by omega
      have q1 : (k : Int) < (n : Int) := by omega
      have e2 := cell_on hbr hc2
      have e0 := cell_on hbr hd0
      have i0 : (0 : Int) ≤ (i : Int) := by omega
      have i1 : (i : Int) < (gn : Int) := by omega
      go_wp2_with fail
      refine wp_region_held_drew (S := (fun w' => w'.cell? ⟨w.heap.size, 0, none⟩ = some (.int .i64 v) ∧ w'.cell? ⟨w.heap.size, 1, none⟩ = some (.slice (some ⟨b, off, none⟩) n c) ∧ w'.cell? ⟨w.heap.size + 1, 0, none⟩ = some (.int .i64 st) ∧ w'.cell? ⟨w.heap.size + 1, 1, none⟩ = some (.slice (some ⟨bd, offd, none⟩) gn gc) ∧ w'.cell? ⟨b, off + k * 3 + 2, none⟩ = some (.bool u) ∧ Blk w' w.heap.size 25 #[.int .i64 v, .slice (some ⟨b, off, none⟩) n c] ∧ Blk w' (w.heap.size + 1) 40 #[.int .i64 st, .slice (some ⟨bd, offd, none⟩) gn gc] ∧ Below w.heap.size w w')) (by kernel_rfl) ?_ (fun hHeld => ?_)
      · exact ⟨kfL.cell 0, kfL.cell 1, krL.cell 0, krL.cell 1, e2, kfL.dr, krL.dr, bel_dr hbr⟩
      refine wpAnyH_take (i := 0) (v := ?_) rfl (by kernel_rfl) (by kernel_rfl) (by kernel_rfl) (fun _ _ _ h => h) (Or.inl ⟨by kernel_rfl, ?_⟩) (by assumption) ?_
      rotate_left 1
      · intro w' hSw; (try dsimp only at hSw); go_simp; try with_reducible rfl
      simp only [Act.put, List.getElem_toArray, List.getElem_cons_zero, List.setIfInBounds_toArray, List.set_cons_zero, List.set_cons_succ]
      refine wpAnyH_take (i := 1) (v := ?_) rfl (by kernel_rfl) (by kernel_rfl) (by kernel_rfl) (fun _ _ _ h => h) (Or.inl ⟨by kernel_rfl, ?_⟩) (by assumption) ?_
      rotate_left 1
      · intro w' hSw; (try dsimp only at hSw); go_simp; try with_reducible rfl
      simp only [Act.put, List.getElem_toArray, List.getElem_cons_zero, List.getElem_cons_succ, List.setIfInBounds_toArray, List.set_cons_zero, List.set_cons_succ]
      refine wpAnyH_take (i := 2) (v := ?_) rfl (by kernel_rfl) (by kernel_rfl) (by kernel_rfl) (fun _ _ _ h => h) (Or.inl ⟨by kernel_rfl, ?_⟩) (by assumption) ?_
      rotate_left 1
      · intro w' hSw; (try dsimp only at hSw); go_simp; try with_reducible rfl
      simp only [Act.put, List.getElem_toArray, List.getElem_cons_zero, List.getElem_cons_succ, List.setIfInBounds_toArray, List.set_cons_zero, List.set_cons_succ]
      refine wpAnyH_take (i := 3) (v := ?_) rfl (by kernel_rfl) (by kernel_rfl) (by kernel_rfl) (fun _ _ _ h => h) (Or.inl ⟨by kernel_rfl, ?_⟩) (by assumption) ?_
      rotate_left 1
      · intro w' hSw; (try dsimp only at hSw); go_simp; try with_reducible rfl
      simp only [Act.put, List.getElem_toArray, List.getElem_cons_zero, List.getElem_cons_succ, List.setIfInBounds_toArray, List.set_cons_zero, List.set_cons_succ]
      refine wpAnyH_ready (rs := [4]) (by kernel_rfl) (by simp) ?_
      refine AllReadyH.cons rfl (fun K hK => ?_) AllReadyH.nil
      go_simp
      go_at_call 65
      refine (flowAt_z v (some ⟨b, off, none⟩) n c l s (k : Int) _ (h.bel (by go_split_ands; assumption)) HAT.out).mono ?_
      rintro e w5 ⟨rfl, hb5⟩
      refine hK.out _ _ ?_ (fun hHeld => ?_)
      · (go_split_ands; exact ⟨cell_on hb5 (by assumption), cell_on hb5 (by assumption), cell_on hb5 (by assumption), cell_on hb5 (by assumption), cell_on hb5 (by assumption), Blk.bel (by assumption) hb5, Blk.bel (by assumption) hb5, bel_nx (by assumption) hb5⟩)
      clear hK K
      try simp only [Act.put, List.getElem_toArray, List.getElem_cons_zero, List.getElem_cons_succ, List.setIfInBounds_toArray, List.set_cons_zero, List.set_cons_succ]
      refine wpAnyH_take (i := 5) (v := ?_) rfl (by kernel_rfl) (by kernel_rfl) (by kernel_rfl) (fun _ _ _ h => h) (Or.inl ⟨by kernel_rfl, ?_⟩) (by assumption) ?_
      rotate_left 1
      · intro w' hSw; (try dsimp only at hSw); go_simp; try with_reducible rfl
      simp only [Act.put, List.getElem_toArray, List.getElem_cons_zero, List.getElem_cons_succ, List.setIfInBounds_toArray, List.set_cons_zero, List.set_cons_succ]
      refine wpAnyH_take (i := 6) (v := ?_) rfl (by kernel_rfl) (by kernel_rfl) (by kernel_rfl) (fun _ _ _ h => h) (Or.inl ⟨by kernel_rfl, ?_⟩) (by assumption) ?_
      rotate_left 1
      · intro w' hSw; (try dsimp only at hSw); go_simp; try with_reducible rfl
      simp only [Act.put, List.getElem_toArray, List.getElem_cons_zero, List.getElem_cons_succ, List.setIfInBounds_toArray, List.set_cons_zero, List.set_cons_succ]
      refine wpAnyH_take (i := 7) (v := ?_) rfl (by kernel_rfl) (by kernel_rfl) (by kernel_rfl) (fun _ _ _ h => h) (Or.inl ⟨by kernel_rfl, ?_⟩) (by assumption) ?_
      rotate_left 1
      · intro w' hSw; (try dsimp only at hSw); go_simp; try with_reducible rfl
      simp only [Act.put, List.getElem_toArray, List.getElem_cons_zero, List.getElem_cons_succ, List.setIfInBounds_toArray, List.set_cons_zero, List.set_cons_succ]
      refine wpAnyH_take (i := 8) (v := ?_) rfl (by kernel_rfl) (by kernel_rfl) (by kernel_rfl) (fun _ _ _ h => h) (Or.inl ⟨by kernel_rfl, ?_⟩) (by assumption) ?_
      rotate_left 1
      · intro w' hSw; (try dsimp only at hSw); go_simp; try with_reducible rfl
      simp only [Act.put, List.getElem_toArray, List.getElem_cons_zero, List.getElem_cons_succ, List.setIfInBounds_toArray, List.set_cons_zero, List.set_cons_succ]
      refine wpAnyH_done (by kernel_rfl) ?_ _
      go_split_ands
      have hB : Below w.heap.size w w5 := by assumption
      have kF : Blk w5 w.heap.size 25 #[.int .i64 v, .slice (some ⟨b, off, none⟩) n c] := by assumption
      have kR : Blk w5 (w.heap.size + 1) 40 #[.int .i64 st, .slice (some ⟨bd, offd, none⟩) gn gc] := by assumption
      cases u
      · have HR := Lib.hid (HF.out.trans (HP.out.symm.trans (pointL_stop HS.out HU.out)))
        go_wp2_with fail
        go_ret
        exact ⟨ret_str HR.out.symm, hB⟩
      · have HN := Lib.hid ((pointL_go HS.out HU.out).symm.trans HP.out)
        go_wp2_with fail
        go_roundw
        case rel => exact ⟨i + 1, by omega, by go_num, HN, kF, kR, hB⟩
        case measure => simp [intOf]; omega
    · have HR := Lib.hid (HF.out.trans (HP.out.symm.trans (pointL_end (by rw [HDL.out]; omega))))
      go_wp2_with fail
      go_ret
      exact ⟨ret_str HR.out.symm, hbr⟩

set_option maxRecDepth 20000 in
set_option maxHeartbeats 4000000 in
theorem specUndoPoint_c (v : Int) (A : Option Addr) (n c : Nat) (l : List Stp) (st : Int) (G : Option Addr) (gn gc : Nat) (done : List ByteArray) (w : World) (h : SlP w A n c l) (hz : SzP l) (hn : n ≤ 1048576) (h' : SlS w G gn gc done) : Calls Try.prog 24 #[.agg #[.int .i64 v, .slice A n c], .agg #[.int .i64 st, .slice G gn gc]] w fun e w' =>
    e = .returned (.string (pointP v l st done)) ∧ Below w.heap.size w w' := by
  have HL := Lib.hid h.len
  have HDL := Lib.hid h'.len
  have hcap := h.cap
  have hmax := h.max
  have hcap' := h'.cap
  have hmax' := h'.max
  have kf := (Blk.new w 25 #[.int .i64 v, .slice A n c]).al (.cells #[.int .i64 st, .slice G gn gc] 40)
  have kr := Blk.new (w.alloc (.cells #[.int .i64 v, .slice A n c] 25)) 40 #[.int .i64 st, .slice G gn gc]
  simp only [World.alloc, Array.size_push] at kr
  have kr : Blk ((w.alloc (.cells #[.int .i64 v, .slice A n c] 25)).alloc (.cells #[.int .i64 st, .slice G gn gc] 40)) (w.heap.size + 1) 40 #[.int .i64 st, .slice G gn gc] := kr
  have hW := bel_al (bel_al (bel_refl w) (.cells #[.int .i64 v, .slice A n c] 25)) (.cells #[.int .i64 st, .slice G gn gc] 40)
  go_enter Try.func24, Try.ntmps24
  go_wp2_with fail
  obtain ⟨bv, hbv⟩ : ∃ x, runB v l st done = x := ⟨_, rfl⟩
  have HBV := Lib.hid hbv
  clear hbv
  go_loopw [5] (fun iv wr => ∃ i : Nat, i ≤ gn ∧ iv = .int .i64 (i : Int) ∧ Hid (0 < i → bv = true) ∧ Hid (pointL l (done.drop i) = pointL l done) ∧ Blk wr w.heap.size 25 #[.int .i64 v, .slice A n c] ∧ Blk wr (w.heap.size + 1) 40 #[.int .i64 st, .slice G gn gc] ∧ Below w.heap.size w wr) (fun iv _ => gn - (intOf iv).toNat)
  case atStart => exact ⟨0, Nat.zero_le _, rfl, Lib.hid (fun h => by omega), Lib.hid (by simp), kf, kr, hW⟩
  case round =>
    obtain ⟨i, hi, rfl, HI, HP, kf0, kr0, hbr0⟩ := hrel
    have cf0 := kf0.cell
    have cr0 := kr0.cell
    by_cases hlt : i < gn
    · have i0 : (0 : Int) ≤ (i : Int) := by omega
      have i1 : (i : Int) < (gn : Int) := by omega
      go_wp2_with fail
      refine (specRunValid_c v A n c l st G gn gc done _ (h.bel hbr0) hz hn (h'.bel hbr0)).mono ?_
      rintro e w1 ⟨rfl, hb1⟩
      rw [HBV.out]
      have kfL := kf0.bel hb1
      have krL := kr0.bel hb1
      have hbr := bel_nx hbr0 hb1
      clear hb1
      cases bv
      · have HR := Lib.hid (pointP_no HBV.out)
        go_wp2_with fail
        go_ret
        exact ⟨ret_str HR.out.symm, hbr⟩
      have HF := Lib.hid (pointP_yes HBV.out)
      have HDN := Lib.hid (done_names (runB_iff.1 HBV.out).2.1)
      obtain ⟨bd, offd, s, hGd, hs, hd0⟩ := SlS.get h' hlt
      subst hGd
      have hmem := HDN.out s (List.mem_of_getElem? hs)
      obtain ⟨k, af, u, hat, hkl, hp, hun⟩ := atP hmem
      obtain ⟨b, off, nm, B, m, d, af2, u2, rfl, hx, hc0, hc1, hc2, haf⟩ := SlP.get h (i := k) (by rw [← HL.out]; exact hkl)
      rw [hp] at hx
      obtain ⟨rfl, rfl, rfl⟩ : s = nm ∧ af = af2 ∧ u = u2 := by simpa using hx
      have hkn : k < n := by rw [← HL.out]; exact hkl
      have HS := Lib.hid hs
      have HU := Lib.hid hun
      have HAT := Lib.hid hat
      clear hmem hat hkl hp hun hx hs haf
      have q0 : (0 : Int) ≤ (k : Int) := by omega
      have q1 : (k : Int) < (n : Int) := by omega
      have e2 := cell_on hbr hc2
      have e0 := cell_on hbr hd0
      have cfq := kfL.cell
      have crq := krL.cell
      have hpp := h.bel hbr
      go_wp2_with fail
      go_quiet ((go_at_call 57; exact Calls.quiet_of_same (l2At_z _ _ _ l s (k : Int) _ (hpp.drN _) HAT.out)))
      cases u
      · have HR := Lib.hid (HF.out.trans (HP.out.symm.trans (pointL_stop HS.out HU.out)))
        go_wp2_with fail
        go_ret
        exact ⟨ret_str HR.out.symm, by (repeat' first | assumption | exact bel_refl _ | refine bel_al ?_ _ | refine bel_dr ?_ | refine bel_drN ?_ _ | refine bel_nx ?_ (by assumption) | (refine bel_set ?_ (by first | omega | (simp; omega)) _))⟩
      · have HN := Lib.hid ((pointL_go HS.out HU.out).symm.trans HP.out)
        go_wp2_with fail
        go_roundw
        case rel => exact ⟨i + 1, by omega, by go_num, Lib.hid (fun _ => by first | rfl | trivial), HN, kfL.drN _, krL.drN _, bel_drN hbr _⟩
        case measure => simp [intOf]; omega
    · have HR : Hid (pointP v l st done = ⟨#[]⟩) := Lib.hid (by
        have he := HP.out.symm.trans (pointL_end (l := l) (by rw [HDL.out]; omega))
        cases hq : runB v l st done
        · exact pointP_no hq
        · rw [pointP_yes hq]; exact he)
      go_wp2_with fail
      go_ret
      exact ⟨ret_str HR.out.symm, hbr0⟩

/-- What would not be undone. -/
def leftP (v : Int) (l : List Stp) (st : Int) (done : List ByteArray) : List ByteArray := if runB v l st done = true then (if st = 2 then done else done.take (firmP l done)) else []
theorem leftP_no {v : Int} {l : List Stp} {st : Int} {done : List ByteArray} (h : runB v l st done = false) : leftP v l st done = [] := by simp [leftP, h]
theorem leftP_all {v : Int} {l : List Stp} {done : List ByteArray} (h : runB v l 2 done = true) : leftP v l 2 done = done := by simp [leftP, h]
theorem leftP_some {v : Int} {l : List Stp} {st : Int} {done : List ByteArray} (h : runB v l st done = true) (h2 : st ≠ 2) : leftP v l st done = done.take (firmP l done) := by simp [leftP, h, h2]

theorem cloneNames_c (A : Option Addr) (n c : Nat) (l : List ByteArray) (w : World) (h : SlS w A n c l) (hn : n ≤ 1048576) : Calls Try.prog 68 #[.slice A n c] w fun e w' =>
    ∃ D dc, e = .returned (.slice D n dc) ∧ w'.ownsRow w.heap.size 9 1 (.slice D n dc) n (l.map Value.string) ∧ Below w.heap.size w w' := by
  obtain ⟨i0, hi0, hz0, hz1, hz2⟩ := info_parts str_info
  have hcap := h.cap
  have hmax := h.max
  go_enter Try.func68, Try.ntmps68
  go_wp2_with (at_builtin; refine wpList_append_sl (enc := encS) rfl _ _ 28 rfl w.heap.size 9 i0 (.string ByteArray.empty) 1 16 Try.underlying28 hi0 hz0 hz1 hz2 rfl (by decide) _ 0 [] rfl (World.ownsRow_nil _ _ _ _) A n c l rfl (fun _ => rfl) h one_S (by unfold maxLen; omega) (by omega) (Nat.le_refl _) ?_; intro v3 w3 ho3 hg3 hl3; rw [Nat.zero_add, List.nil_append, flat_encS] at ho3; obtain ⟨A3, c3, rfl⟩ := own_form ho3)
  have hb3 : Below w.heap.size w w3 := (Below.refl _ _).grown hg3 (Nat.le_refl _) (fun j hj => by cases hj)
  go_ret
  exact ⟨A3, c3, rfl, ho3, hb3⟩

theorem own_dr {w : World} {B : Nat} {e : TypeId} {k n : Nat} {v : Value} {xs : List Value} (h : w.ownsRow B e k v n xs) : w.drew.ownsRow B e k v n xs := h
theorem texts_new (w : World) : (w.alloc (.cells #[] 9)).ownsRow w.heap.size 9 1 (.slice (some ⟨w.heap.size, 0, none⟩) 0 0) 0 (([] : List ByteArray).map Value.string) :=
  World.ownsRow_lit w #[] 0 (Nat.le_refl _) (by unfold maxLen; omega) rfl

set_option maxRecDepth 20000 in
set_option maxHeartbeats 4000000 in
theorem implUndoLeft_c (v : Int) (A : Option Addr) (n c : Nat) (l : List Stp) (st : Int) (G : Option Addr) (gn gc : Nat) (done : List ByteArray) (w : World) (h : SlP w A n c l) (hz : SzP l) (_hn : n ≤ 1048576) (h' : SlS w G gn gc done) (hgn : gn ≤ 1048576) : Calls Try.prog 26 #[.agg #[.int .i64 v, .slice A n c], .agg #[.int .i64 st, .slice G gn gc]] w fun e w' =>
    ∃ D dn dc, e = .returned (.slice D dn dc) ∧ w'.ownsRow w.heap.size 9 1 (.slice D dn dc) dn ((leftP v l st done).map Value.string) ∧ Below w.heap.size w w' := by
  have HL := Lib.hid h.len
  have HDL := Lib.hid h'.len
  have hcap := h.cap
  have hmax := h.max
  have hcap' := h'.cap
  have hmax' := h'.max
  have kf := (Blk.new w 25 #[.int .i64 v, .slice A n c]).al (.cells #[.int .i64 st, .slice G gn gc] 40)
  have kr := Blk.new (w.alloc (.cells #[.int .i64 v, .slice A n c] 25)) 40 #[.int .i64 st, .slice G gn gc]
  simp only [World.alloc, Array.size_push] at kr
  have kr : Blk ((w.alloc (.cells #[.int .i64 v, .slice A n c] 25)).alloc (.cells #[.int .i64 st, .slice G gn gc] 40)) (w.heap.size + 1) 40 #[.int .i64 st, .slice G gn gc] := kr
  have hW := bel_al (bel_al (bel_refl w) (.cells #[.int .i64 v, .slice A n c] 25)) (.cells #[.int .i64 st, .slice G gn gc] 40)
  go_enter Try.func26, Try.ntmps26
  go_wp2_with fail
  refine (implRunValid_c v A n c l st G gn gc done _ (h.bel hW) hz (h'.bel hW)).mono ?_
  rintro e w1 ⟨rfl, hb1⟩
  have kfV := kf.bel hb1
  have krV := kr.bel hb1
  have hWV := bel_nx hW hb1
  clear hb1
  have cf := kfV.cell
  have cr := krV.cell
  cases hv : runB v l st done
  · have HF := Lib.hid (leftP_no hv)
    clear hv
    go_wp2_with fail
    go_ret
    rw [HF.out]
    exact ⟨none, 0, 0, rfl, World.ownsRow_nil _ _ _ _, hWV⟩
  have HV := Lib.hid hv
  have HDN := Lib.hid (done_names (runB_iff.1 hv).2.1)
  clear hv
  by_cases h2 : st = 2
  · have HF : Hid (leftP v l st done = done) := Lib.hid (by rw [h2]; exact leftP_all (by rw [← h2]; exact HV.out))
    have e2 : (st == 2) = true := by simpa using h2
    clear h2
    go_wp2_with fail
    refine (cloneNames_c G gn gc done _ (h'.bel hWV) hgn).mono ?_
    rintro e w5 ⟨D, dc, rfl, hD, hb5⟩
    go_wp2_with fail
    go_ret
    rw [HF.out]
    exact ⟨D, gn, dc, rfl, ownsRow_base hD hWV.size, bel_nx hWV hb5⟩
  have HF := Lib.hid (leftP_some HV.out h2)
  have e2 : (st == 2) = false := by simpa using h2
  clear h2
  have hfl : firmP l done ≤ gn := by rw [← HDL.out]; exact firmN_le _ _ _
  obtain ⟨f, hf⟩ : ∃ f, firmP l done = f := ⟨_, rfl⟩
  rw [hf] at hfl
  have HFI := Lib.hid hf
  clear hf
  have f0 : (0 : Int) ≤ (f : Int) := by omega
  have f1 : (f : Int) ≤ (gc : Int) := by omega
  have f2 : f ≤ 1048576 := by omega
  have ht := h'.take (m := f) hfl
  go_wp2_with fail
  refine wp_region_held_drew (S := (fun w' => w'.cell? ⟨w.heap.size, 0, none⟩ = some (.int .i64 v) ∧ w'.cell? ⟨w.heap.size, 1, none⟩ = some (.slice A n c) ∧ w'.cell? ⟨w.heap.size + 1, 0, none⟩ = some (.int .i64 st) ∧ w'.cell? ⟨w.heap.size + 1, 1, none⟩ = some (.slice G gn gc) ∧ Blk w' w.heap.size 25 #[.int .i64 v, .slice A n c] ∧ Blk w' (w.heap.size + 1) 40 #[.int .i64 st, .slice G gn gc] ∧ Below w.heap.size w w')) (by kernel_rfl) ?_ (fun hHeld => ?_)
  · exact ⟨kfV.cell 0, kfV.cell 1, krV.cell 0, krV.cell 1, kfV.dr, krV.dr, bel_dr hWV⟩
  refine wpAnyH_take (i := 0) (v := ?_) rfl (by kernel_rfl) (by kernel_rfl) (by kernel_rfl) (fun _ _ _ h => h) (Or.inl ⟨by kernel_rfl, ?_⟩) (by assumption) ?_
  rotate_left 1
  · intro w' hSw; (try dsimp only at hSw); go_simp; try with_reducible rfl
  simp only [Act.put, List.getElem_toArray, List.getElem_cons_zero, List.setIfInBounds_toArray, List.set_cons_zero, List.set_cons_succ]
  refine wpAnyH_take (i := 1) (v := ?_) rfl (by kernel_rfl) (by kernel_rfl) (by kernel_rfl) (fun _ _ _ h => h) (Or.inl ⟨by kernel_rfl, ?_⟩) (by assumption) ?_
  rotate_left 1
  · intro w' hSw; (try dsimp only at hSw); go_simp; try with_reducible rfl
  simp only [Act.put, List.getElem_toArray, List.getElem_cons_zero, List.getElem_cons_succ, List.setIfInBounds_toArray, List.set_cons_zero, List.set_cons_succ]
  refine wpAnyH_take (i := 2) (v := ?_) rfl (by kernel_rfl) (by kernel_rfl) (by kernel_rfl) (fun _ _ _ h => h) (Or.inl ⟨by kernel_rfl, ?_⟩) (by assumption) ?_
  rotate_left 1
  · intro w' hSw; (try dsimp only at hSw); go_simp; try with_reducible rfl
  simp only [Act.put, List.getElem_toArray, List.getElem_cons_zero, List.getElem_cons_succ, List.setIfInBounds_toArray, List.set_cons_zero, List.set_cons_succ]
  refine wpAnyH_take (i := 3) (v := ?_) rfl (by kernel_rfl) (by kernel_rfl) (by kernel_rfl) (fun _ _ _ h => h) (Or.inl ⟨by kernel_rfl, ?_⟩) (by assumption) ?_
  rotate_left 1
  · intro w' hSw; (try dsimp only at hSw); go_simp; try with_reducible rfl
  simp only [Act.put, List.getElem_toArray, List.getElem_cons_zero, List.getElem_cons_succ, List.setIfInBounds_toArray, List.set_cons_zero, List.set_cons_succ]
  refine wpAnyH_take (i := 4) (v := ?_) rfl (by kernel_rfl) (by kernel_rfl) (by kernel_rfl) (fun _ _ _ h => h) (Or.inl ⟨by kernel_rfl, ?_⟩) (by assumption) ?_
  rotate_left 1
  · intro w' hSw; (try dsimp only at hSw); go_simp; try with_reducible rfl
  simp only [Act.put, List.getElem_toArray, List.getElem_cons_zero, List.getElem_cons_succ, List.setIfInBounds_toArray, List.set_cons_zero, List.set_cons_succ]
  refine wpAnyH_ready (rs := [5]) (by kernel_rfl) (by simp) ?_
  refine AllReadyH.cons rfl (fun K hK => ?_) AllReadyH.nil
  go_simp
  go_at_call 69
  refine (firm_c v A n c l G gn gc done _ (h.bel (by go_split_ands; assumption)) (h'.bel (by go_split_ands; assumption)) HDN.out).mono ?_
  rintro e w5 ⟨rfl, hb5⟩
  rw [HFI.out]
  refine hK.out _ _ ?_ (fun hHeld => ?_)
  · (go_split_ands; exact ⟨cell_on hb5 (by assumption), cell_on hb5 (by assumption), cell_on hb5 (by assumption), cell_on hb5 (by assumption), Blk.bel (by assumption) hb5, Blk.bel (by assumption) hb5, bel_nx (by assumption) hb5⟩)
  clear hK K
  try simp only [Act.put, List.getElem_toArray, List.getElem_cons_zero, List.getElem_cons_succ, List.setIfInBounds_toArray, List.set_cons_zero, List.set_cons_succ]
  refine wpAnyH_take (i := 6) (v := ?_) rfl (by kernel_rfl) (by kernel_rfl) (by kernel_rfl) (fun _ _ _ h => h) (Or.inl ⟨by kernel_rfl, ?_⟩) (by assumption) ?_
  rotate_left 1
  · intro w' hSw; (try dsimp only at hSw); go_simp; try with_reducible rfl
  simp only [Act.put, List.getElem_toArray, List.getElem_cons_zero, List.getElem_cons_succ, List.setIfInBounds_toArray, List.set_cons_zero, List.set_cons_succ]
  refine wpAnyH_ready (rs := [7]) (by kernel_rfl) (by simp) ?_
  refine AllReadyH.cons rfl (fun K hK => ?_) AllReadyH.nil
  go_simp
  go_at_call 68
  refine (cloneNames_c G f gc (done.take f) _ (ht.bel (by go_split_ands; assumption)) f2).mono ?_
  rintro e w6 ⟨E, ec, rfl, hE, hb6⟩
  have hsz5 : w.heap.size ≤ w5.heap.size := (show Below w.heap.size w w5 by go_split_ands; assumption).size
  refine hK.out _ _ ?_ (fun hHeld => ?_)
  · (go_split_ands; exact ⟨cell_on hb6 (by assumption), cell_on hb6 (by assumption), cell_on hb6 (by assumption), cell_on hb6 (by assumption), Blk.bel (by assumption) hb6, Blk.bel (by assumption) hb6, bel_nx (by assumption) hb6⟩)
  clear hK K
  try simp only [Act.put, List.getElem_toArray, List.getElem_cons_zero, List.getElem_cons_succ, List.setIfInBounds_toArray, List.set_cons_zero, List.set_cons_succ]
  refine wpAnyH_take (i := 8) (v := ?_) rfl (by kernel_rfl) (by kernel_rfl) (by kernel_rfl) (fun _ _ _ h => h) (Or.inl ⟨by kernel_rfl, ?_⟩) (by assumption) ?_
  rotate_left 1
  · intro w' hSw; (try dsimp only at hSw); go_simp; try with_reducible rfl
  simp only [Act.put, List.getElem_toArray, List.getElem_cons_zero, List.getElem_cons_succ, List.setIfInBounds_toArray, List.set_cons_zero, List.set_cons_succ]
  refine wpAnyH_done (by kernel_rfl) ?_ _
  go_split_ands
  have hB : Below w.heap.size w w6 := by assumption
  go_wp2_with fail
  go_ret
  rw [HF.out, HFI.out]
  exact ⟨E, f, ec, rfl, ownsRow_base hE hsz5, hB⟩

set_option maxRecDepth 20000 in
set_option maxHeartbeats 4000000 in
theorem specUndoLeft_c (v : Int) (A : Option Addr) (n c : Nat) (l : List Stp) (st : Int) (G : Option Addr) (gn gc : Nat) (done : List ByteArray) (w : World) (h : SlP w A n c l) (hz : SzP l) (hn : n ≤ 1048576) (h' : SlS w G gn gc done) (hgn : gn ≤ 1048576) : Calls Try.prog 31 #[.agg #[.int .i64 v, .slice A n c], .agg #[.int .i64 st, .slice G gn gc]] w fun e w' =>
    ∃ D dn dc, e = .returned (.slice D dn dc) ∧ w'.ownsRow w.heap.size 9 1 (.slice D dn dc) dn ((leftP v l st done).map Value.string) ∧ Below w.heap.size w w' := by
  have HL := Lib.hid h.len
  have HDL := Lib.hid h'.len
  have hcap := h.cap
  have hmax := h.max
  have hcap' := h'.cap
  have hmax' := h'.max
  have kf := (Blk.new w 25 #[.int .i64 v, .slice A n c]).al (.cells #[.int .i64 st, .slice G gn gc] 40)
  have kr := Blk.new (w.alloc (.cells #[.int .i64 v, .slice A n c] 25)) 40 #[.int .i64 st, .slice G gn gc]
  simp only [World.alloc, Array.size_push] at kr
  have kr : Blk ((w.alloc (.cells #[.int .i64 v, .slice A n c] 25)).alloc (.cells #[.int .i64 st, .slice G gn gc] 40)) (w.heap.size + 1) 40 #[.int .i64 st, .slice G gn gc] := kr
  have hW := bel_al (bel_al (bel_refl w) (.cells #[.int .i64 v, .slice A n c] 25)) (.cells #[.int .i64 st, .slice G gn gc] 40)
  go_enter Try.func31, Try.ntmps31
  go_wp2_with fail
  obtain ⟨i0, hi0, hz0, hz1, hz2⟩ := info_parts str_info
  refine (specRunValid_c v A n c l st G gn gc done _ (h.bel hW) hz hn (h'.bel hW)).mono ?_
  rintro e w1 ⟨rfl, hb1⟩
  have kfV := kf.bel hb1
  have krV := kr.bel hb1
  have hWV := bel_nx hW hb1
  clear hb1
  have cf := kfV.cell
  have cr := krV.cell
  have hszV := hWV.size
  cases hv : runB v l st done
  · have HF := Lib.hid (leftP_no hv)
    clear hv
    go_wp2_with fail
    go_ret
    rw [HF.out]
    exact ⟨_, 0, 0, rfl, ownsRow_base (texts_new w1) hszV, bel_al hWV _⟩
  have HV := Lib.hid hv
  have HDN := Lib.hid (done_names (runB_iff.1 hv).2.1)
  clear hv
  by_cases h2 : st = 2
  · have HF : Hid (leftP v l st done = done) := Lib.hid (by rw [h2]; exact leftP_all (by rw [← h2]; exact HV.out))
    have e2 : (st == 2) = true := by simpa using h2
    clear h2
    go_wp2_with (at_builtin; refine wpList_append_sl (enc := encS) rfl _ _ 28 rfl w1.heap.size 9 i0 (.string ByteArray.empty) 1 16 Try.underlying28 hi0 hz0 hz1 hz2 rfl (by decide) _ 0 [] rfl (texts_new w1) G gn gc done rfl (fun _ => rfl) ((h'.bel hWV).al _) one_S (by unfold maxLen; omega) (by omega) (by simp) ?_; intro v3 w3 ho3 hg3 hl3; rw [Nat.zero_add, List.nil_append, flat_encS] at ho3; obtain ⟨A3, c3, rfl⟩ := own_form ho3)
    have hb3 : Below w.heap.size w w3 := (bel_al hWV _).grown hg3 (by simp; omega) (fun j hj => by cases hj; exact hszV)
    go_ret
    rw [HF.out]
    exact ⟨A3, gn, c3, rfl, ownsRow_base ho3 hszV, hb3⟩
  have HF := Lib.hid (leftP_some HV.out h2)
  have e2 : (st == 2) = false := by simpa using h2
  clear h2
  have hfl : firmP l done ≤ gn := by rw [← HDL.out]; exact firmN_le _ _ _
  obtain ⟨f, hf⟩ : ∃ f, firmP l done = f := ⟨_, rfl⟩
  rw [hf] at hfl
  have HFI := Lib.hid hf
  clear hf
  have f0 : (0 : Int) ≤ (f : Int) := by omega
  have f1 : (f : Int) ≤ (gc : Int) := by omega
  have f2 : f ≤ 1048576 := by omega
  have ht := h'.take (m := f) hfl
  have hpV := h.bel hWV
  have hqV := h'.bel hWV
  have htV := ht.bel hWV
  go_wp2_with fail
  go_region_law (first
    | (go_simp; go_at_call 67; refine (l3Left_c A n c l G gn gc done _ (by first | exact hpV | exact hpV.dr | exact hpV.al _ | exact (hpV.al _).dr | exact (hpV.dr).al _) (by first | exact hqV | exact hqV.dr | exact hqV.al _ | exact (hqV.al _).dr | exact (hqV.dr).al _) HDN.out).mono ?_; rintro e w5 ⟨rfl, rfl⟩; rw [HFI.out])
    | (refine step_append_sl (enc := encS) (by rfl) _ _ 28 (by rfl) w1.heap.size 9 i0 (.string ByteArray.empty) 1 16 Try.underlying28 hi0 hz0 hz1 hz2 rfl (by decide) (.slice (some ⟨w1.heap.size, 0, none⟩) 0 0) 0 [] (by rfl) (by first | exact texts_new w1 | exact own_dr (texts_new w1)) G f gc (done.take f) (by rfl) (fun _ => rfl) (by first | exact htV.al _ | exact (htV.al _).dr | exact (htV.dr).al _) one_S (by unfold maxLen; omega) (by omega) (by simp) ?_; intro v3 w3 ho3 hg3 hl3; rw [Nat.zero_add, List.nil_append, flat_encS] at ho3; obtain ⟨A3, c3, rfl⟩ := own_form ho3))
  all_goals
    have hb3 : Below w.heap.size w w3 := by
      first
        | exact (bel_al hWV _).grown hg3 (by simp; omega) (fun j hj => by cases hj; exact hszV)
        | exact (bel_dr (bel_al hWV _)).grown hg3 (by simp; omega) (fun j hj => by cases hj; exact hszV)
    go_wp2_with fail
    go_ret
    rw [HF.out, HFI.out]
    exact ⟨A3, f, c3, rfl, ownsRow_base ho3 hszV, hb3⟩

end Go.Proofs.Ytdchfiiaollheaa
