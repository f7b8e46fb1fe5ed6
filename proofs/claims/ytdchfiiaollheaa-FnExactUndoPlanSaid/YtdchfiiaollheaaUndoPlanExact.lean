/- For every flow and every run the program's UndoPlan returns what the reference's returns, leaves its arguments as they were, and shares no memory. No conditions. -/
import Derived.Test.YtdchfiiaollheaaFlowMark
import Derived.Test.YtdchfiiaollheaaFlowRow
import Derived.Test.YtdchfiiaollheaaUndo2
import Derived.Deep.RegionWith
namespace Go.Proofs.Ytdchfiiaollheaa
open Go.ChangeShapes Go.WideShapes Go.ChangeAt Go.RowKit Go.Joins

theorem planP_len (v : Int) (l : List Stp) (st : Int) (done : List ByteArray) : (planP v l st done).length ≤ done.length := by
  unfold planP
  split
  · rw [List.length_reverse, List.length_drop]; omega
  · exact Nat.zero_le _
set_option maxRecDepth 20000 in
set_option maxHeartbeats 16000000 in
theorem UndoPlanExact_w (v : Int) (A : Option Addr) (n c : Nat) (l : List Stp) (st : Int) (G : Option Addr) (gn gc : Nat) (done : List ByteArray) (w : World) (h : SlP w A n c l) (hz : SzP l) (h' : SlS w G gn gc done) (hz' : SzL done) : Calls Try.prog 14 #[.agg #[.int .i64 v, .slice A n c], .agg #[.int .i64 st, .slice G gn gc]] w fun e w' => e = .returned (.bool true) ∧ Below w.heap.size w w' := by
  have HP := Lib.hid h
  have HQ := Lib.hid h'
  have kf := (Blk.new w 34 #[.int .i64 v, .slice A n c]).al (.cells #[.int .i64 st, .slice G gn gc] 46)
  have kr := Blk.new (w.alloc (.cells #[.int .i64 v, .slice A n c] 34)) 46 #[.int .i64 st, .slice G gn gc]
  simp only [World.alloc, Array.size_push] at kr
  have kr : Blk ((w.alloc (.cells #[.int .i64 v, .slice A n c] 34)).alloc (.cells #[.int .i64 st, .slice G gn gc] 46)) (w.heap.size + 1) 46 #[.int .i64 st, .slice G gn gc] := kr
  have hB := bel_al (bel_al (bel_refl w) (.cells #[.int .i64 v, .slice A n c] 34)) (.cells #[.int .i64 st, .slice G gn gc] 46)
  clear h h'
  go_enter Try.func14, Try.ntmps14
  go_wp2_with fail
  refine (szFlow_s v A n c l _ 1048576 (HP.out.bel hB) hz (by omega) (by omega)).mono ?_
  rintro e w1 ⟨r, rfl, hr, hb1⟩
  have kf := kf.bel hb1
  have kr := kr.bel hb1
  have hB := bel_nx hB hb1
  have cf := kf.cell
  have cr := kr.cell
  rcases hr with hr | ⟨hr0, hr1⟩
  · go_wp2_with fail
    go_ret
    exact ⟨rfl, hB⟩
  have hsa : n + sumA l ≤ 1048576 := by omega
  have HSH := Lib.hid (sumA_short (l := l) (m := 1048576) (by omega))
  have hn : n ≤ 1048576 := by omega
  go_wp2_with fail
  refine (szRun_s st G gn gc done _ r (HQ.out.bel hB) hz' hr0 (by omega)).mono ?_
  rintro e w2 ⟨r2, rfl, hs, hb2⟩
  have kf := kf.bel hb2
  have kr := kr.bel hb2
  have hB := bel_nx hB hb2
  have cf := kf.cell
  have cr := kr.cell
  rcases hs with hs | ⟨hs0, hs1⟩
  · go_wp2_with fail
    go_ret
    exact ⟨rfl, hB⟩
  have hgn : gn ≤ 1048576 := by omega
  go_wp2_with fail
  obtain ⟨pt, hpt⟩ : ∃ q, planP v l st done = q := ⟨_, rfl⟩
  have hptl : pt.length ≤ gn := by rw [← hpt, ← HQ.out.len]; exact planP_len v l st done
  have HT := Lib.hid hpt
  have HPT := Lib.hid hptl
  clear hpt hptl
  go_cut [6] (fun vv wc => ∃ (P : Option Addr) (pn pc : Nat), vv = .slice P pn pc ∧ wc.ownsRow w2.heap.size 9 1 (.slice P pn pc) pn (pt.map Value.string) ∧ Below w2.heap.size w2 wc)
  case first =>
    have hp0 := HP.out.bel hB
    have hq0 := HQ.out.bel hB
    go_region_with ((first
      | (go_at_call 20; refine (toFlow_c v A n c l _ (by first | exact hp0.dr | exact hp0 | exact hp0.bel hBb) hn HSH.out).mono ?_; rintro e wa ⟨D, dc, rfl, hD, hba⟩; have hBa : Below w2.heap.size w2 wa := (by first | exact hba | exact bel_nx hBb hba | exact bel_nx (bel_dr (bel_refl _)) hba); have c_fa := (kf.bel hBa).cell; have c_ra := (kr.bel hBa).cell; try (have hE := own_bel hE hba))
      | (go_at_call 28; refine (toRun_c st G gn gc done _ (by first | exact hq0.dr | exact hq0 | exact hq0.bel hBa) hgn).mono ?_; rintro e wb ⟨E, ec, rfl, hE, hbb⟩; have hBb : Below w2.heap.size w2 wb := (by first | exact hbb | exact bel_nx hBa hbb | exact bel_nx (bel_dr (bel_refl _)) hbb); have c_fb := (kf.bel hBb).cell; have c_rb := (kr.bel hBb).cell; try (have hD := hD.bel hbb))
      | (go_at_call 36; refine (specUndoPlan_c v D n dc l st E gn ec done _ hD.read hz hn (SlS.of_own hE) hgn).mono ?_; rintro e wd ⟨P, pn, pc, rfl, hP, hbd⟩; have hBd : Below w2.heap.size w2 wd := (by first | exact bel_nx hBa hbd | exact bel_nx hBb hbd); rw [HT.out] at hP; have hPd := ownsRow_base (B' := w2.heap.size) hP (by first | exact hBa.size | exact hBb.size))))
    all_goals (go_wp2_with fail; go_meet)
    all_goals case rel => exact ⟨P, pn, pc, rfl, hPd, hBd⟩
  case rest =>
    obtain ⟨P, pn, pc, rfl, hP, hbc⟩ := hcut
    have kr2 := kr
    have hxw0' : w.heap.size + 2 ≤ wc.heap.size := by have h1 := hbc.size; have h2 := kr.lt; omega
    have kf := kf.bel hbc
    have kr := kr.bel hbc
    have hB := bel_nx hB hbc
    have cf := kf.cell
    have cr := kr.cell
    have hPlt : ∀ j, (Value.slice P pn pc).ownBlock = some j → j < wc.heap.size := fun j hj => (hP.lt j hj).2
    obtain ⟨pb, hpb⟩ : ∃ b, b = w2.heap.size := ⟨_, rfl⟩
    rw [← hpb] at hP
    clear hpb
    go_wp2_with fail
    obtain ⟨xb, hxb⟩ : ∃ b, b = wc.heap.size := ⟨_, rfl⟩
    rw [← hxb] at hPlt
    have hxw0 : w.heap.size + 2 ≤ xb := by rw [hxb]; exact hxw0'
    refine (toFlow_c v A n c l _ (HP.out.bel hB) hn HSH.out).mono ?_
    rintro e w11 ⟨X, xc, rfl, hX, hb11⟩
    rw [← hxb] at hX
    have hx11 : xb ≤ w11.heap.size := by rw [hxb]; exact hb11.size
    obtain ⟨raw, hM⟩ := hX.mark
    have kf := kf.bel hb11
    have kr := kr.bel hb11
    have hP := own_bel hP hb11
    have hB := bel_nx hB hb11
    have cf := kf.cell
    have cr := kr.cell
    have kx := Blk.new w11 25 #[.int .i64 v, .slice X n xc]
    obtain ⟨bx, hbx⟩ : ∃ b, b = w11.heap.size := ⟨_, rfl⟩
    rw [← hbx] at hM hx11
    have hX := hX.al (.cells #[.int .i64 v, .slice X n xc] 25)
    have kf := kf.al (.cells #[.int .i64 v, .slice X n xc] 25)
    have kr := kr.al (.cells #[.int .i64 v, .slice X n xc] 25)
    have hM := hM.al (.cells #[.int .i64 v, .slice X n xc] 25)
    have hP := hP.alloc (.cells #[.int .i64 v, .slice X n xc] 25)
    have hB := bel_al hB (.cells #[.int .i64 v, .slice X n xc] 25)
    go_wp2_with fail
    rw [← hbx] at kx ⊢
    obtain ⟨wX, hwX⟩ : ∃ W, W = w11.alloc (.cells #[.int .i64 v, .slice X n xc] 25) := ⟨_, rfl⟩
    rw [← hwX] at kx hX hM hP kf kr hB ⊢
    have hbxl : bx < wX.heap.size := kx.lt
    clear hwX hbx
    obtain ⟨yb, hyb⟩ : ∃ b, b = wX.heap.size := ⟨_, rfl⟩
    refine (toRun_c st G gn gc done _ (HQ.out.bel hB) hgn).mono ?_
    rintro e w12 ⟨Y, yc, rfl, hY, hb12⟩
    rw [← hyb] at hY
    have hy12 : yb ≤ w12.heap.size := by rw [hyb]; exact hb12.size
    have hYlt : ∀ j, (Value.slice Y gn yc).ownBlock = some j → j < w12.heap.size := fun j hj => (hY.lt j hj).2
    have kf := kf.bel hb12
    have kr := kr.bel hb12
    have hP := own_bel hP hb12
    have kx := kx.bel hb12
    have hX := hX.bel hb12
    have hM := hM.bel hb12
    have hB := bel_nx hB hb12
    have cf := kf.cell
    have cr := kr.cell
    have c_kx := kx.cell
    have ky := Blk.new w12 40 #[.int .i64 st, .slice Y gn yc]
    obtain ⟨by_, hby⟩ : ∃ b, b = w12.heap.size := ⟨_, rfl⟩
    rw [← hby] at hYlt hy12
    have hX := hX.al (.cells #[.int .i64 st, .slice Y gn yc] 40)
    have kf := kf.al (.cells #[.int .i64 st, .slice Y gn yc] 40)
    have kr := kr.al (.cells #[.int .i64 st, .slice Y gn yc] 40)
    have kx := kx.al (.cells #[.int .i64 st, .slice Y gn yc] 40)
    have hM := hM.al (.cells #[.int .i64 st, .slice Y gn yc] 40)
    have hY := hY.alloc (.cells #[.int .i64 st, .slice Y gn yc] 40)
    have hP := hP.alloc (.cells #[.int .i64 st, .slice Y gn yc] 40)
    have hB := bel_al hB (.cells #[.int .i64 st, .slice Y gn yc] 40)
    have cf := kf.cell
    have c_kx := kx.cell
    go_wp2_with fail
    rw [← hby] at ky ⊢
    obtain ⟨wY, hwY⟩ : ∃ W, W = w12.alloc (.cells #[.int .i64 st, .slice Y gn yc] 40) := ⟨_, rfl⟩
    rw [← hwY] at ky kx hX hM hY hP kf kr hB ⊢
    have hbyl : by_ < wY.heap.size := ky.lt
    clear hwY hby
    have hxy : bx < yb := by rw [hyb]; exact hbxl
    obtain ⟨gb, hgb⟩ : ∃ b, b = wY.heap.size := ⟨_, rfl⟩
    refine (implUndoPlan_c v X n xc l st Y gn yc done _ hX.read hz hn (SlS.of_own hY) hgn).mono ?_
    rintro e w13 ⟨Q, qn, qc, rfl, hG, hb13⟩
    rw [HT.out, ← hgb] at hG
    have kf := kf.bel hb13
    have kr := kr.bel hb13
    have hP := own_bel hP hb13
    have kx := kx.bel hb13
    have hX := hX.bel hb13
    have hM := hM.bel hb13
    have ky := ky.bel hb13
    have hY := own_bel hY hb13
    have hB := bel_nx hB hb13
    have cf := kf.cell
    have cr := kr.cell
    have c_kx := kx.cell
    have c_ky := ky.cell
    have hgy : by_ < gb := by rw [hgb]; exact hbyl
    have hqn : qn ≤ gn := by rw [own_countS hG]; exact HPT.out
    go_wp2_with fail
    refine (eqStringS_same _ _ _ _ _ _ pt _ (SlS.of_own hG) (SlS.of_own hP)).mono ?_
    rintro e w14 ⟨rfl, hb14⟩
    have kf := kf.bel hb14
    have kr := kr.bel hb14
    have hP := own_bel hP hb14
    have kx := kx.bel hb14
    have hX := hX.bel hb14
    have hM := hM.bel hb14
    have ky := ky.bel hb14
    have hY := own_bel hY hb14
    have hG := own_bel hG hb14
    have hB := bel_nx hB hb14
    have cf := kf.cell
    have cr := kr.cell
    have c_kx := kx.cell
    have c_ky := ky.cell
    go_wp2_with fail
    refine wp_region_held_drew (S := (fun w' => w'.cell? ⟨w.heap.size, 0, none⟩ = some (.int .i64 v) ∧ w'.cell? ⟨w.heap.size, 1, none⟩ = some (.slice A n c) ∧ w'.cell? ⟨w.heap.size + 1, 0, none⟩ = some (.int .i64 st) ∧ w'.cell? ⟨w.heap.size + 1, 1, none⟩ = some (.slice G gn gc) ∧ w'.cell? ⟨bx, 0, none⟩ = some (.int .i64 v) ∧ w'.cell? ⟨bx, 1, none⟩ = some (.slice X n xc) ∧ w'.cell? ⟨by_, 0, none⟩ = some (.int .i64 st) ∧ w'.cell? ⟨by_, 1, none⟩ = some (.slice Y gn yc) ∧ Blk w' w.heap.size 34 #[.int .i64 v, .slice A n c] ∧ Blk w' (w.heap.size + 1) 46 #[.int .i64 st, .slice G gn gc] ∧ Blk w' bx 25 #[.int .i64 v, .slice X n xc] ∧ Blk w' by_ 40 #[.int .i64 st, .slice Y gn yc] ∧ OwnP w' xb X n xc l ∧ w'.ownsRow yb 9 1 (.slice Y gn yc) gn (done.map Value.string) ∧ Below w.heap.size w w' ∧ OwnM w' xb bx X n xc l raw ∧ w'.ownsRow pb 9 1 (.slice P pn pc) pn (pt.map Value.string) ∧ w'.ownsRow gb 9 1 (.slice Q qn qc) qn (pt.map Value.string))) (by kernel_rfl) ?_ (fun hHeld => ?_)
    · exact ⟨kf.cell 0, kf.cell 1, kr.cell 0, kr.cell 1, kx.cell 0, kx.cell 1, ky.cell 0, ky.cell 1, kf.dr, kr.dr, kx.dr, ky.dr, hX.dr, hY, bel_dr hB, hM.dr, hP, hG⟩
    refine wpAnyH_take (i := 0) (v := ?_) rfl (by kernel_rfl) (by kernel_rfl) (by kernel_rfl) (fun _ _ _ h => h) (Or.inl ⟨by kernel_rfl, ?_⟩) (by assumption) ?_
    rotate_left 1
    · intro w' hSw; (try dsimp only at hSw); go_simp; try with_reducible rfl
    simp only [Act.put, List.getElem_toArray, List.getElem_cons_zero, List.setIfInBounds_toArray, List.set_cons_zero, List.set_cons_succ]
    refine wpAnyH_take (i := 1) (v := ?_) rfl (by kernel_rfl) (by kernel_rfl) (by kernel_rfl) (fun _ _ _ h => h) (Or.inl ⟨by kernel_rfl, ?_⟩) (by assumption) ?_
    rotate_left 1
    · intro w' hSw; (try dsimp only at hSw); go_simp; try with_reducible rfl
    simp only [Act.put, List.getElem_toArray, List.getElem_cons_zero, List.getElem_cons_succ, List.setIfInBounds_toArray, List.set_cons_zero, List.set_cons_succ]
    refine wpAnyH_ready (rs := [2]) (by kernel_rfl) (by simp) ?_
    refine AllReadyH.cons rfl (fun K hK => ?_) AllReadyH.nil
    go_simp
    go_at_call 20
    refine (toFlow_c v A n c l _ (HP.out.bel (by go_split_ands; assumption)) hn HSH.out).mono ?_
    rintro e w15 ⟨D15, dc15, rfl, hD15, hb15⟩
    refine hK.out _ _ ?_ (fun hHeld => ?_)
    · (go_split_ands; exact ⟨cell_on hb15 (by assumption), cell_on hb15 (by assumption), cell_on hb15 (by assumption), cell_on hb15 (by assumption), cell_on hb15 (by assumption), cell_on hb15 (by assumption), cell_on hb15 (by assumption), cell_on hb15 (by assumption), Blk.bel (by assumption) hb15, Blk.bel (by assumption) hb15, Blk.bel (by assumption) hb15, Blk.bel (by assumption) hb15, OwnP.bel (by assumption) hb15, own_bel (by assumption) hb15, bel_nx (by assumption) hb15, OwnM.bel (by assumption) hb15, own_bel (by assumption) hb15, own_bel (by assumption) hb15⟩)
    clear hK K
    try simp only [Act.put, List.getElem_toArray, List.getElem_cons_zero, List.getElem_cons_succ, List.setIfInBounds_toArray, List.set_cons_zero, List.set_cons_succ]
    refine wpAnyH_ready (rs := [3]) (by kernel_rfl) (by simp) ?_
    refine AllReadyH.cons rfl (fun K hK => ?_) AllReadyH.nil
    go_simp
    go_at_call 21
    refine (eqFlow_same v X D15 n xc n dc15 l _ (OwnP.read (B := xb) (by go_split_ands; assumption)) hD15.read).mono ?_
    rintro e w16 ⟨rfl, hb16⟩
    refine hK.out _ _ ?_ (fun hHeld => ?_)
    · (go_split_ands; exact ⟨cell_on hb16 (by assumption), cell_on hb16 (by assumption), cell_on hb16 (by assumption), cell_on hb16 (by assumption), cell_on hb16 (by assumption), cell_on hb16 (by assumption), cell_on hb16 (by assumption), cell_on hb16 (by assumption), Blk.bel (by assumption) hb16, Blk.bel (by assumption) hb16, Blk.bel (by assumption) hb16, Blk.bel (by assumption) hb16, OwnP.bel (by assumption) hb16, own_bel (by assumption) hb16, bel_nx (by assumption) hb16, OwnM.bel (by assumption) hb16, own_bel (by assumption) hb16, own_bel (by assumption) hb16⟩)
    clear hK K
    try simp only [Act.put, List.getElem_toArray, List.getElem_cons_zero, List.getElem_cons_succ, List.setIfInBounds_toArray, List.set_cons_zero, List.set_cons_succ]
    refine wpAnyH_take (i := 4) (v := ?_) rfl (by kernel_rfl) (by kernel_rfl) (by kernel_rfl) (fun _ _ _ h => h) (Or.inl ⟨by kernel_rfl, ?_⟩) (by assumption) ?_
    rotate_left 1
    · intro w' hSw; (try dsimp only at hSw); go_simp; try with_reducible rfl
    simp only [Act.put, List.getElem_toArray, List.getElem_cons_zero, List.getElem_cons_succ, List.setIfInBounds_toArray, List.set_cons_zero, List.set_cons_succ]
    refine wpAnyH_done (by kernel_rfl) ?_ _
    go_split_ands
    have kf : Blk w16 w.heap.size 34 #[.int .i64 v, .slice A n c] := by assumption
    have kr : Blk w16 (w.heap.size + 1) 46 #[.int .i64 st, .slice G gn gc] := by assumption
    have kx : Blk w16 bx 25 #[.int .i64 v, .slice X n xc] := by assumption
    have ky : Blk w16 by_ 40 #[.int .i64 st, .slice Y gn yc] := by assumption
    have hX : OwnP w16 xb X n xc l := by assumption
    have hY : w16.ownsRow yb 9 1 (.slice Y gn yc) gn (done.map Value.string) := by assumption
    have hB : Below w.heap.size w w16 := by assumption
    have hM : OwnM w16 xb bx X n xc l raw := by assumption
    have hP : w16.ownsRow pb 9 1 (.slice P pn pc) pn (pt.map Value.string) := by assumption
    have hG : w16.ownsRow gb 9 1 (.slice Q qn qc) qn (pt.map Value.string) := by assumption
    go_wp2_with fail
    refine wp_region_held_drew (S := (fun w' => w'.cell? ⟨w.heap.size, 0, none⟩ = some (.int .i64 v) ∧ w'.cell? ⟨w.heap.size, 1, none⟩ = some (.slice A n c) ∧ w'.cell? ⟨w.heap.size + 1, 0, none⟩ = some (.int .i64 st) ∧ w'.cell? ⟨w.heap.size + 1, 1, none⟩ = some (.slice G gn gc) ∧ w'.cell? ⟨bx, 0, none⟩ = some (.int .i64 v) ∧ w'.cell? ⟨bx, 1, none⟩ = some (.slice X n xc) ∧ w'.cell? ⟨by_, 0, none⟩ = some (.int .i64 st) ∧ w'.cell? ⟨by_, 1, none⟩ = some (.slice Y gn yc) ∧ Blk w' w.heap.size 34 #[.int .i64 v, .slice A n c] ∧ Blk w' (w.heap.size + 1) 46 #[.int .i64 st, .slice G gn gc] ∧ Blk w' bx 25 #[.int .i64 v, .slice X n xc] ∧ Blk w' by_ 40 #[.int .i64 st, .slice Y gn yc] ∧ OwnP w' xb X n xc l ∧ w'.ownsRow yb 9 1 (.slice Y gn yc) gn (done.map Value.string) ∧ Below w.heap.size w w' ∧ OwnM w' xb bx X n xc l raw ∧ w'.ownsRow pb 9 1 (.slice P pn pc) pn (pt.map Value.string) ∧ w'.ownsRow gb 9 1 (.slice Q qn qc) qn (pt.map Value.string))) (by kernel_rfl) ?_ (fun hHeld => ?_)
    · exact ⟨kf.cell 0, kf.cell 1, kr.cell 0, kr.cell 1, kx.cell 0, kx.cell 1, ky.cell 0, ky.cell 1, kf.dr, kr.dr, kx.dr, ky.dr, hX.dr, hY, bel_dr hB, hM.dr, hP, hG⟩
    refine wpAnyH_take (i := 0) (v := ?_) rfl (by kernel_rfl) (by kernel_rfl) (by kernel_rfl) (fun _ _ _ h => h) (Or.inl ⟨by kernel_rfl, ?_⟩) (by assumption) ?_
    rotate_left 1
    · intro w' hSw; (try dsimp only at hSw); go_simp; try with_reducible rfl
    simp only [Act.put, List.getElem_toArray, List.getElem_cons_zero, List.setIfInBounds_toArray, List.set_cons_zero, List.set_cons_succ]
    refine wpAnyH_take (i := 1) (v := ?_) rfl (by kernel_rfl) (by kernel_rfl) (by kernel_rfl) (fun _ _ _ h => h) (Or.inl ⟨by kernel_rfl, ?_⟩) (by assumption) ?_
    rotate_left 1
    · intro w' hSw; (try dsimp only at hSw); go_simp; try with_reducible rfl
    simp only [Act.put, List.getElem_toArray, List.getElem_cons_zero, List.getElem_cons_succ, List.setIfInBounds_toArray, List.set_cons_zero, List.set_cons_succ]
    refine wpAnyH_ready (rs := [2]) (by kernel_rfl) (by simp) ?_
    refine AllReadyH.cons rfl (fun K hK => ?_) AllReadyH.nil
    go_simp
    go_at_call 28
    refine (toRun_c st G gn gc done _ (HQ.out.bel (by go_split_ands; assumption)) hgn).mono ?_
    rintro e w17 ⟨E17, ec17, rfl, hE17, hb17⟩
    refine hK.out _ _ ?_ (fun hHeld => ?_)
    · (go_split_ands; exact ⟨cell_on hb17 (by assumption), cell_on hb17 (by assumption), cell_on hb17 (by assumption), cell_on hb17 (by assumption), cell_on hb17 (by assumption), cell_on hb17 (by assumption), cell_on hb17 (by assumption), cell_on hb17 (by assumption), Blk.bel (by assumption) hb17, Blk.bel (by assumption) hb17, Blk.bel (by assumption) hb17, Blk.bel (by assumption) hb17, OwnP.bel (by assumption) hb17, own_bel (by assumption) hb17, bel_nx (by assumption) hb17, OwnM.bel (by assumption) hb17, own_bel (by assumption) hb17, own_bel (by assumption) hb17⟩)
    clear hK K
    try simp only [Act.put, List.getElem_toArray, List.getElem_cons_zero, List.getElem_cons_succ, List.setIfInBounds_toArray, List.set_cons_zero, List.set_cons_succ]
    refine wpAnyH_ready (rs := [3]) (by kernel_rfl) (by simp) ?_
    refine AllReadyH.cons rfl (fun K hK => ?_) AllReadyH.nil
    go_simp
    go_at_call 29
    refine (eqRun_same st Y E17 gn yc gn ec17 done _ (SlS.of_own (B := yb) (e := 9) (by go_split_ands; assumption)) (SlS.of_own hE17)).mono ?_
    rintro e w18 ⟨rfl, hb18⟩
    refine hK.out _ _ ?_ (fun hHeld => ?_)
    · (go_split_ands; exact ⟨cell_on hb18 (by assumption), cell_on hb18 (by assumption), cell_on hb18 (by assumption), cell_on hb18 (by assumption), cell_on hb18 (by assumption), cell_on hb18 (by assumption), cell_on hb18 (by assumption), cell_on hb18 (by assumption), Blk.bel (by assumption) hb18, Blk.bel (by assumption) hb18, Blk.bel (by assumption) hb18, Blk.bel (by assumption) hb18, OwnP.bel (by assumption) hb18, own_bel (by assumption) hb18, bel_nx (by assumption) hb18, OwnM.bel (by assumption) hb18, own_bel (by assumption) hb18, own_bel (by assumption) hb18⟩)
    clear hK K
    try simp only [Act.put, List.getElem_toArray, List.getElem_cons_zero, List.getElem_cons_succ, List.setIfInBounds_toArray, List.set_cons_zero, List.set_cons_succ]
    refine wpAnyH_take (i := 4) (v := ?_) rfl (by kernel_rfl) (by kernel_rfl) (by kernel_rfl) (fun _ _ _ h => h) (Or.inl ⟨by kernel_rfl, ?_⟩) (by assumption) ?_
    rotate_left 1
    · intro w' hSw; (try dsimp only at hSw); go_simp; try with_reducible rfl
    simp only [Act.put, List.getElem_toArray, List.getElem_cons_zero, List.getElem_cons_succ, List.setIfInBounds_toArray, List.set_cons_zero, List.set_cons_succ]
    refine wpAnyH_done (by kernel_rfl) ?_ _
    go_split_ands
    have kf : Blk w18 w.heap.size 34 #[.int .i64 v, .slice A n c] := by assumption
    have kr : Blk w18 (w.heap.size + 1) 46 #[.int .i64 st, .slice G gn gc] := by assumption
    have kx : Blk w18 bx 25 #[.int .i64 v, .slice X n xc] := by assumption
    have ky : Blk w18 by_ 40 #[.int .i64 st, .slice Y gn yc] := by assumption
    have hX : OwnP w18 xb X n xc l := by assumption
    have hY : w18.ownsRow yb 9 1 (.slice Y gn yc) gn (done.map Value.string) := by assumption
    have hB : Below w.heap.size w w18 := by assumption
    have hM : OwnM w18 xb bx X n xc l raw := by assumption
    have hP : w18.ownsRow pb 9 1 (.slice P pn pc) pn (pt.map Value.string) := by assumption
    have hG : w18.ownsRow gb 9 1 (.slice Q qn qc) qn (pt.map Value.string) := by assumption
    have c_kx := kx.cell
    have c_ky := ky.cell
    have hxw : w.heap.size + 2 ≤ xb := hxw0
    go_wp2_with fail
    refine (markFlow_c xb bx v X n xc 1 l raw _ hM (by omega) (by omega)).mono ?_
    rintro e w51 ⟨k1, rfl, ⟨hk1, hk1b⟩, hu⟩
    have hP := hu.own hP (fun j hj => .inl (by have := hPlt j hj; omega))
    have hG := hu.own hG (fun j hj => .inr (by have := (hG.lt j hj).1; omega))
    have hY := hu.own hY (fun j hj => .inr (by have := (hY.lt j hj).1; omega))
    have ky := hu.blk ky (.inr (by omega))
    have kf := hu.blk kf (.inl (by omega))
    have kr := hu.blk kr (.inl (by omega))
    have hB := hu.below hB (by omega)
    clear hu hM hX kx c_kx c_ky
    have c_ky := ky.cell
    go_wp2_with fail
    refine (markRun_c yb by_ st Y gn yc k1 done _ hY hYlt hk1 (by omega)).mono ?_
    rintro e w52 ⟨k2, rfl, hu⟩
    have hP := hu.own hP (fun j hj => .inl (by have := hPlt j hj; omega))
    have hG := hu.own hG (fun j hj => .inr (by have := (hG.lt j hj).1; omega))
    have kf := hu.blk kf (.inl (by omega))
    have kr := hu.blk kr (.inl (by omega))
    have hB := hu.below hB (by omega)
    clear hu hY ky c_ky
    have k2p : (0 : Int) ≤ (k2 : Int) := by omega
    go_wp2_with fail
    refine (eqStringS_same _ _ _ _ _ _ pt _ (SlS.of_own hG) (SlS.of_own hP)).mono ?_
    rintro e w61 ⟨rfl, hb61⟩
    have kf := kf.bel hb61
    have kr := kr.bel hb61
    have hP := own_bel hP hb61
    have hG := own_bel hG hb61
    have hB := bel_nx hB hb61
    have cf := kf.cell
    have cr := kr.cell
    go_wp2_with fail
    refine (markStringS_c gb Q qn qc 1 pt _ hG (by omega) (by omega)).mono ?_
    rintro e w71 ⟨rfl, hGm, hg⟩
    have gne : ∀ g, g < gb → some g ≠ (Value.slice Q qn qc).ownBlock := fun g hlt he => by have := (hG.lt g he.symm).1; omega
    have hP := hP.kept hg (by rcases hb : (Value.slice P pn pc).ownBlock with _ | j; exact .inl rfl; exact .inr (gne j (by have := hPlt j hb; omega)))
    have kf := kf.gr hg (gne _ (by omega))
    have kr := kr.gr hg (gne _ (by omega))
    have hB := hB.grown hg hB.size (fun j hj => by have := (hG.lt j hj).1; omega)
    have hG := hGm
    clear hGm hg gne
    go_wp2_with fail
    refine (heldStringS_c _ _ _ 1 _ (SlS.of_own hG) (by omega) (by omega)).mono ?_
    rintro e w72 ⟨rfl, hb72⟩
    have kf := kf.bel hb72
    have kr := kr.bel hb72
    have hP := own_bel hP hb72
    have hG := own_bel hG hb72
    have hB := bel_nx hB hb72
    have cf := kf.cell
    have cr := kr.cell
    have kq : (0 : Int) ≤ ((1 + qn : Nat) : Int) := by omega
    go_wp2_with fail
    go_cut [13] (fun vv wc => ∃ (J : Option Addr) (jn jc : Nat), vv = .slice J jn jc ∧ wc.ownsRow w72.heap.size 9 1 (.slice J jn jc) jn (pt.map Value.string) ∧ Below w72.heap.size w72 wc)
    case first =>
      have hp0 := HP.out.bel hB
      have hq0 := HQ.out.bel hB
      go_region_with ((first
        | (go_at_call 20; refine (toFlow_c v A n c l _ (by first | exact hp0.dr | exact hp0 | exact hp0.bel hBb) hn HSH.out).mono ?_; rintro e wa ⟨D, dc, rfl, hD, hba⟩; have hBa : Below w72.heap.size w72 wa := (by first | exact hba | exact bel_nx hBb hba | exact bel_nx (bel_dr (bel_refl _)) hba); have c_fa := (kf.bel hBa).cell; have c_ra := (kr.bel hBa).cell; try (have hE := own_bel hE hba))
        | (go_at_call 28; refine (toRun_c st G gn gc done _ (by first | exact hq0.dr | exact hq0 | exact hq0.bel hBa) hgn).mono ?_; rintro e wb ⟨E, ec, rfl, hE, hbb⟩; have hBb : Below w72.heap.size w72 wb := (by first | exact hbb | exact bel_nx hBa hbb | exact bel_nx (bel_dr (bel_refl _)) hbb); have c_fb := (kf.bel hBb).cell; have c_rb := (kr.bel hBb).cell; try (have hD := hD.bel hbb))
        | (go_at_call 35; refine (implUndoPlan_c v D n dc l st E gn ec done _ hD.read hz hn (SlS.of_own hE) hgn).mono ?_; rintro e wd ⟨J, jn, jc, rfl, hJ, hbd⟩; have hBd : Below w72.heap.size w72 wd := (by first | exact bel_nx hBa hbd | exact bel_nx hBb hbd); rw [HT.out] at hJ; have hJd := ownsRow_base (B' := w72.heap.size) hJ (by first | exact hBa.size | exact hBb.size))))
      all_goals (go_wp2_with fail; go_meet)
      all_goals case rel => exact ⟨J, jn, jc, rfl, hJd, hBd⟩
    case rest =>
      obtain ⟨J, jn, jc, rfl, hJ, hbc⟩ := hcut
      have kf := kf.bel hbc
      have kr := kr.bel hbc
      have hP := own_bel hP hbc
      have hG := own_bel hG hbc
      have hB := bel_nx hB hbc
      have cf := kf.cell
      have cr := kr.cell
      go_wp2_with fail
      refine (eqStringS_same _ _ _ _ _ _ pt _ (SlS.of_own hJ) (SlS.of_own hP)).mono ?_
      rintro e w81 ⟨rfl, hb81⟩
      have kf := kf.bel hb81
      have kr := kr.bel hb81
      have hP := own_bel hP hb81
      have hG := own_bel hG hb81
      have hJ := own_bel hJ hb81
      have hB := bel_nx hB hb81
      have cf := kf.cell
      have cr := kr.cell
      go_wp2_with fail
      refine (heldStringS_c _ _ _ 1 _ (SlS.of_own hG) (by omega) (by omega)).mono ?_
      rintro e w82 ⟨rfl, hb82⟩
      have kf := kf.bel hb82
      have kr := kr.bel hb82
      have hP := own_bel hP hb82
      have hG := own_bel hG hb82
      have hJ := own_bel hJ hb82
      have hB := bel_nx hB hb82
      have cf := kf.cell
      have cr := kr.cell
      go_wp2_with fail
      go_ret
      exact ⟨rfl, hB⟩

set_option maxRecDepth 100000 in
theorem fnExactUndoPlan_l (os : Os) (started : os.Started) (H : Type) (enc : TypeId × Value → H) :
    ReturnsInHanded {} Try.checked os 14 .any (Rows.fnExactUndoPlanSpec.pre6 enc Try.prog Try.f14 Rows.fnExactUndoPlanRow.domain false) (Rows.fnExactUndoPlanSpec.post enc Try.prog Try.f14 false true false false) := by
  refine returnsInHanded_of_change (C := Try.checked) own started (by kernel_rfl) Try.func14
    (ChangeSpec.witness6 (enc := enc) (C := Try.checked) false ⟨#[], #[.agg #[.int .i64 0, .slice none 0 0], .agg #[.int .i64 0, .slice none 0 0]], []⟩ 8 (by kernel_rfl) (by kernel_rfl) (by kernel_rfl) (by kernel_rfl)) ?_
  intro W base args ds gs before hval0 hW hcnd _
  have hval : ∀ (j : Nat) t v, Try.f14.params[j]? = some t → args[j]? = some v → Value.okWide Try.prog W .any base t v := hval0
  have hW' := hW
  obtain ⟨p, q, hA0, hV, rfl, hfz, hnd⟩ := hW
  have hA : DataW.TrodAll enc Try.prog W 0 (fun _ => true) true Try.f14.params.toList args.toList ds p := hA0
  rw [Try.params14] at hA hval
  obtain ⟨v0, vs0, d0, ds0, p0, q0, hargs, rfl, rfl, h0, r0⟩ := trodAll_cons hA
  obtain ⟨v1, vs1, d1, ds1, p1, q1, rfl, rfl, rfl, h1, r1⟩ := trodAll_cons r0
  obtain ⟨rfl, rfl, rfl⟩ := trodAll_nil r1
  obtain rfl : args = #[v0, v1] := by cases args; simp_all
  obtain ⟨rfl, rfl⟩ := trodVars_none hV
  have k0 := h0
  have lt0 : ∀ x ∈ p0, x.block < W.heap.size := by obtain ⟨m, hm⟩ := k0; exact DataW.trod_lt m _ _ _ hm
  obtain ⟨c0, v0, y0, y1, m, rfl, _, _, hy0, hy1⟩ := open_agg2 Try.underlying34 (by kernel_rfl) (show Try.prog.cellsOf 34 = 2 by kernel_rfl) (hval 0 34 v0 rfl rfl) h0
  obtain ⟨a0, e0, _, wa0⟩ := DataW.trod_int Try.underlying3 hy0
  simp at e0
  subst e0
  obtain ⟨A0, n0, cc0, l0, ev, w0, z0⟩ := steps_read hy1 (fun _ => rfl)
  simp at ev
  subst ev
  have k1 := h1
  have lt1 : ∀ x ∈ p1, x.block < W.heap.size := by obtain ⟨m, hm⟩ := k1; exact DataW.trod_lt m _ _ _ hm
  obtain ⟨c1, v1, y0, y1, m, rfl, _, _, hy0, hy1⟩ := open_agg2 Try.underlying46 (by kernel_rfl) (show Try.prog.cellsOf 46 = 2 by kernel_rfl) (hval 1 46 v1 rfl rfl) h1
  obtain ⟨a1, e0, _, wa1⟩ := DataW.trod_int Try.underlying3 hy0
  simp at e0
  subst e0
  obtain ⟨A1, n1, cc1, l1, ev, w1, z1⟩ := texts_read hy1 (fun _ => rfl)
  simp at ev
  subst ev
  clear hA0 hval0
  refine (UndoPlanExact_w a0 A0 n0 cc0 l0 a1 A1 n1 cc1 l1 W w0 z0 w1 z1).mono fun e W' ⟨he, bel⟩ => ?_
  subst he
  exact ⟨_, rfl, _, _, _, [], _, [], hW', trodAll_mk1 (shut_bool Try.underlying4 _), (trodAll_cons_mk (Below.trod laidOut (by kernel_rfl) (of_decide_eq_true (by kernel_rfl)) k0 bel lt0) (trodAll_cons_mk (Below.trod laidOut (by kernel_rfl) (of_decide_eq_true (by kernel_rfl)) k1 bel lt1) trodAll_mk0)), rfl, bel.frame _, fun h => by cases h⟩

theorem fnExactUndoPlan_holds : Rows.FnExactUndoPlanSaid :=
  OpenClaim.holds_of_wide 14 Try.f14 rfl rfl rfl rfl rfl rfl rfl ⟨rfl, rfl, rfl, rfl, rfl⟩ rfl rfl rfl rfl rfl (by kernel_rfl) Try.func14 (by kernel_rfl)
    (of_decide_eq_true (by kernel_rfl)) (by unfold Func.isWrapper; first | (rw [if_pos (by decide +kernel)]; kernel_rfl) | (rw [if_neg (by decide +kernel)]; exact ⟨rfl, rfl⟩))
    (fun os started H enc _ => fnExactUndoPlan_l os started H enc)
#print axioms fnExactUndoPlan_holds

end Go.Proofs.Ytdchfiiaollheaa
