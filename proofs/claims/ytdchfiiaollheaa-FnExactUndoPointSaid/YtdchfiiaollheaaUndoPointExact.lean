/- For every flow and every run the program's UndoPoint returns what the reference's returns, and leaves its arguments as they were. No conditions. -/
import Derived.Test.YtdchfiiaollheaaFlowTo2
import Derived.Test.YtdchfiiaollheaaFlowRow
import Derived.Test.YtdchfiiaollheaaUndo1
import Derived.Deep.RegionWith
namespace Go.Proofs.Ytdchfiiaollheaa
open Go.ChangeShapes Go.WideShapes Go.ChangeAt Go.RowKit Go.Joins

set_option maxRecDepth 20000 in
set_option maxHeartbeats 16000000 in
theorem exactUndoPoint_w (v : Int) (A : Option Addr) (n c : Nat) (l : List Stp) (st : Int) (G : Option Addr) (gn gc : Nat) (done : List ByteArray) (w : World) (h : SlP w A n c l) (hz : SzP l) (h' : SlS w G gn gc done) (hz' : SzL done) : Calls Try.prog 6 #[.agg #[.int .i64 v, .slice A n c], .agg #[.int .i64 st, .slice G gn gc]] w fun e w' => e = .returned (.bool true) ∧ Below w.heap.size w w' := by
  have HP := Lib.hid h
  have HQ := Lib.hid h'
  have kf := (Blk.new w 34 #[.int .i64 v, .slice A n c]).al (.cells #[.int .i64 st, .slice G gn gc] 46)
  have kr := Blk.new (w.alloc (.cells #[.int .i64 v, .slice A n c] 34)) 46 #[.int .i64 st, .slice G gn gc]
  simp only [World.alloc, Array.size_push] at kr
  have kr : Blk ((w.alloc (.cells #[.int .i64 v, .slice A n c] 34)).alloc (.cells #[.int .i64 st, .slice G gn gc] 46)) (w.heap.size + 1) 46 #[.int .i64 st, .slice G gn gc] := kr
  have hB := bel_al (bel_al (bel_refl w) (.cells #[.int .i64 v, .slice A n c] 34)) (.cells #[.int .i64 st, .slice G gn gc] 46)
  clear h h'
  go_enter Try.func6, Try.ntmps6
  go_wp2_with fail
  refine (szFlow_c v A n c l _ 1048576 (HP.out.bel hB) hz (by omega) (by omega)).mono ?_
  rintro e w1 ⟨r, rfl, hr, hb1⟩
  have kf := kf.bel hb1
  have kr := kr.bel hb1
  have hB := bel_nx hB hb1
  have cf := kf.cell
  have cr := kr.cell
  rcases hr with hr | ⟨hr0, hr1, hr2, hsh0⟩
  · go_wp2_with fail
    go_ret
    exact ⟨rfl, hB⟩
  have HSH := Lib.hid hsh0
  have hn : n ≤ 1048576 := by omega
  clear hsh0
  go_wp2_with fail
  refine (szRun_c st G gn gc done _ r (HQ.out.bel hB) hz' hr0 (by omega)).mono ?_
  rintro e w2 ⟨r2, rfl, hs, hb2⟩
  have kf := kf.bel hb2
  have kr := kr.bel hb2
  have hB := bel_nx hB hb2
  have cf := kf.cell
  have cr := kr.cell
  rcases hs with hs | ⟨hs0, hs1, hs2⟩
  · go_wp2_with fail
    go_ret
    exact ⟨rfl, hB⟩
  have hgn : gn ≤ 1048576 := by omega
  go_wp2_with fail
  obtain ⟨pt, hpt⟩ : ∃ q, pointP v l st done = q := ⟨_, rfl⟩
  have HT := Lib.hid hpt
  clear hpt
  go_cut [6] (fun vv wc => vv = .string pt ∧ Below w2.heap.size w2 wc)
  case first =>
    have hp0 := HP.out.bel hB
    have hq0 := HQ.out.bel hB
    go_region_with ((first
      | (go_at_call 20; refine (toFlow_c v A n c l _ (by first | exact hp0.dr | exact hp0 | exact hp0.bel hBb) hn HSH.out).mono ?_; rintro e wa ⟨D, dc, rfl, hD, hba⟩; have hBa : Below w2.heap.size w2 wa := (by first | exact hba | exact bel_nx hBb hba | exact bel_nx (bel_dr (bel_refl _)) hba); have c_fa := (kf.bel hBa).cell; have c_ra := (kr.bel hBa).cell; try (have hE := own_bel hE hba))
      | (go_at_call 28; refine (toRun_c st G gn gc done _ (by first | exact hq0.dr | exact hq0 | exact hq0.bel hBa) hgn).mono ?_; rintro e wb ⟨E, ec, rfl, hE, hbb⟩; have hBb : Below w2.heap.size w2 wb := (by first | exact hbb | exact bel_nx hBa hbb | exact bel_nx (bel_dr (bel_refl _)) hbb); have c_fb := (kf.bel hBb).cell; have c_rb := (kr.bel hBb).cell; try (have hD := hD.bel hbb))
      | (go_at_call 24; refine (specUndoPoint_c v D n dc l st E gn ec done _ hD.read hz hn (SlS.of_own hE)).mono ?_; rintro e wd ⟨rfl, hbd⟩; have hBd : Below w2.heap.size w2 wd := (by first | exact bel_nx hBa hbd | exact bel_nx hBb hbd); (try rw [HT.out]))))
    all_goals (go_wp2_with fail; go_meet)
    all_goals case rel => exact ⟨by first | rfl | rw [HT.out], hBd⟩
  case rest =>
    obtain ⟨rfl, hbc⟩ := hcut
    have kf := kf.bel hbc
    have kr := kr.bel hbc
    have hB := bel_nx hB hbc
    have cf := kf.cell
    have cr := kr.cell
    go_wp2_with fail
    obtain ⟨xb, hxb⟩ : ∃ b, b = wc.heap.size := ⟨_, rfl⟩
    refine (toFlow_c v A n c l _ (HP.out.bel hB) hn HSH.out).mono ?_
    rintro e w11 ⟨X, xc, rfl, hX, hb11⟩
    rw [← hxb] at hX
    have kf := kf.bel hb11
    have kr := kr.bel hb11
    have hB := bel_nx hB hb11
    have cf := kf.cell
    have cr := kr.cell
    have kx := Blk.new w11 25 #[.int .i64 v, .slice X n xc]
    obtain ⟨bx, hbx⟩ : ∃ b, b = w11.heap.size := ⟨_, rfl⟩
    have hX := hX.al (.cells #[.int .i64 v, .slice X n xc] 25)
    have kf := kf.al (.cells #[.int .i64 v, .slice X n xc] 25)
    have kr := kr.al (.cells #[.int .i64 v, .slice X n xc] 25)
    have hB := bel_al hB (.cells #[.int .i64 v, .slice X n xc] 25)
    go_wp2_with fail
    rw [← hbx] at kx ⊢
    obtain ⟨wX, hwX⟩ : ∃ W, W = w11.alloc (.cells #[.int .i64 v, .slice X n xc] 25) := ⟨_, rfl⟩
    rw [← hwX] at kx hX kf kr hB ⊢
    have hbxl : bx < wX.heap.size := kx.lt
    clear hwX hbx
    obtain ⟨yb, hyb⟩ : ∃ b, b = wX.heap.size := ⟨_, rfl⟩
    refine (toRun_c st G gn gc done _ (HQ.out.bel hB) hgn).mono ?_
    rintro e w12 ⟨Y, yc, rfl, hY, hb12⟩
    rw [← hyb] at hY
    have kf := kf.bel hb12
    have kr := kr.bel hb12
    have kx := kx.bel hb12
    have hX := hX.bel hb12
    have hB := bel_nx hB hb12
    have cf := kf.cell
    have cr := kr.cell
    have c_kx := kx.cell
    have ky := Blk.new w12 40 #[.int .i64 st, .slice Y gn yc]
    obtain ⟨by_, hby⟩ : ∃ b, b = w12.heap.size := ⟨_, rfl⟩
    have hX := hX.al (.cells #[.int .i64 st, .slice Y gn yc] 40)
    have kf := kf.al (.cells #[.int .i64 st, .slice Y gn yc] 40)
    have kr := kr.al (.cells #[.int .i64 st, .slice Y gn yc] 40)
    have kx := kx.al (.cells #[.int .i64 st, .slice Y gn yc] 40)
    have hY := hY.alloc (.cells #[.int .i64 st, .slice Y gn yc] 40)
    have hB := bel_al hB (.cells #[.int .i64 st, .slice Y gn yc] 40)
    have cf := kf.cell
    have c_kx := kx.cell
    go_wp2_with fail
    rw [← hby] at ky ⊢
    obtain ⟨wY, hwY⟩ : ∃ W, W = w12.alloc (.cells #[.int .i64 st, .slice Y gn yc] 40) := ⟨_, rfl⟩
    rw [← hwY] at ky kx hX hY kf kr hB ⊢
    clear hwY hby
    refine (implUndoPoint_c v X n xc l st Y gn yc done _ hX.read hz hn (SlS.of_own hY)).mono ?_
    rintro e w13 ⟨rfl, hb13⟩
    rw [HT.out]
    have ept : (pt.toList != pt.toList) = false := by simp
    have kf := kf.bel hb13
    have kr := kr.bel hb13
    have kx := kx.bel hb13
    have hX := hX.bel hb13
    have ky := ky.bel hb13
    have hY := own_bel hY hb13
    have hB := bel_nx hB hb13
    have cf := kf.cell
    have cr := kr.cell
    have c_kx := kx.cell
    have c_ky := ky.cell
    go_wp2_with fail
    refine wp_region_held_drew (S := (fun w' => w'.cell? ⟨w.heap.size, 0, none⟩ = some (.int .i64 v) ∧ w'.cell? ⟨w.heap.size, 1, none⟩ = some (.slice A n c) ∧ w'.cell? ⟨w.heap.size + 1, 0, none⟩ = some (.int .i64 st) ∧ w'.cell? ⟨w.heap.size + 1, 1, none⟩ = some (.slice G gn gc) ∧ w'.cell? ⟨bx, 0, none⟩ = some (.int .i64 v) ∧ w'.cell? ⟨bx, 1, none⟩ = some (.slice X n xc) ∧ w'.cell? ⟨by_, 0, none⟩ = some (.int .i64 st) ∧ w'.cell? ⟨by_, 1, none⟩ = some (.slice Y gn yc) ∧ Blk w' w.heap.size 34 #[.int .i64 v, .slice A n c] ∧ Blk w' (w.heap.size + 1) 46 #[.int .i64 st, .slice G gn gc] ∧ Blk w' bx 25 #[.int .i64 v, .slice X n xc] ∧ Blk w' by_ 40 #[.int .i64 st, .slice Y gn yc] ∧ OwnP w' xb X n xc l ∧ w'.ownsRow yb 9 1 (.slice Y gn yc) gn (done.map Value.string) ∧ Below w.heap.size w w')) (by kernel_rfl) ?_ (fun hHeld => ?_)
    · exact ⟨kf.cell 0, kf.cell 1, kr.cell 0, kr.cell 1, kx.cell 0, kx.cell 1, ky.cell 0, ky.cell 1, kf.dr, kr.dr, kx.dr, ky.dr, hX.dr, hY, bel_dr hB⟩
    refine wpAnyH_take (i := 0) (v := ?_) rfl (by kernel_rfl) (by kernel_rfl) (by kernel_rfl) (fun _ _ _ h => h) (Or.inl ⟨by kernel_rfl, ?_⟩) (by assumption) ?_
    rotate_left 1
    · intro w' hSw; (try dsimp only at hSw); go_simp; try with_reducible rfl
    simp only [Act.put, List.getElem_toArray, List.getElem_cons_zero, List.setIfInBounds_toArray, List.set_cons_zero, List.set_cons_succ]
    refine wpAnyH_take (i := 1) (v := ?_) rfl (by kernel_rfl) (by kernel_rfl) (by kernel_rfl) (fun _ _ _ h => h) (Or.inl ⟨by kernel_rfl, ?_⟩) (by assumption) ?_
    rotate_left 1
    · intro w' hSw; (try dsimp only at hSw); go_simp; try with_reducible rfl
    simp only [Act.put, List.getElem_toArray, List.getElem_cons_zero, List.getElem_cons_succ, List.setIfInBounds_toArray, List.set_cons_zero, List.set_cons_succ]
    refine wpAnyH_ready (rs := [2]) (by kernel_rfl) (by simp) ?_
    refine AllReadyH.cons rfl (fun K hK => ?_) AllReadyH.nil
    go_simp
    go_at_call 20
    refine (toFlow_c v A n c l _ (HP.out.bel (by go_split_ands; assumption)) hn HSH.out).mono ?_
    rintro e w14 ⟨D14, dc14, rfl, hD14, hb14⟩
    refine hK.out _ _ ?_ (fun hHeld => ?_)
    · (go_split_ands; exact ⟨cell_on hb14 (by assumption), cell_on hb14 (by assumption), cell_on hb14 (by assumption), cell_on hb14 (by assumption), cell_on hb14 (by assumption), cell_on hb14 (by assumption), cell_on hb14 (by assumption), cell_on hb14 (by assumption), Blk.bel (by assumption) hb14, Blk.bel (by assumption) hb14, Blk.bel (by assumption) hb14, Blk.bel (by assumption) hb14, OwnP.bel (by assumption) hb14, own_bel (by assumption) hb14, bel_nx (by assumption) hb14⟩)
    clear hK K
    try simp only [Act.put, List.getElem_toArray, List.getElem_cons_zero, List.getElem_cons_succ, List.setIfInBounds_toArray, List.set_cons_zero, List.set_cons_succ]
    refine wpAnyH_ready (rs := [3]) (by kernel_rfl) (by simp) ?_
    refine AllReadyH.cons rfl (fun K hK => ?_) AllReadyH.nil
    go_simp
    go_at_call 21
    refine (eqFlow_same v X D14 n xc n dc14 l _ (OwnP.read (B := xb) (by go_split_ands; assumption)) hD14.read).mono ?_
    rintro e w15 ⟨rfl, hb15⟩
    refine hK.out _ _ ?_ (fun hHeld => ?_)
    · (go_split_ands; exact ⟨cell_on hb15 (by assumption), cell_on hb15 (by assumption), cell_on hb15 (by assumption), cell_on hb15 (by assumption), cell_on hb15 (by assumption), cell_on hb15 (by assumption), cell_on hb15 (by assumption), cell_on hb15 (by assumption), Blk.bel (by assumption) hb15, Blk.bel (by assumption) hb15, Blk.bel (by assumption) hb15, Blk.bel (by assumption) hb15, OwnP.bel (by assumption) hb15, own_bel (by assumption) hb15, bel_nx (by assumption) hb15⟩)
    clear hK K
    try simp only [Act.put, List.getElem_toArray, List.getElem_cons_zero, List.getElem_cons_succ, List.setIfInBounds_toArray, List.set_cons_zero, List.set_cons_succ]
    refine wpAnyH_take (i := 4) (v := ?_) rfl (by kernel_rfl) (by kernel_rfl) (by kernel_rfl) (fun _ _ _ h => h) (Or.inl ⟨by kernel_rfl, ?_⟩) (by assumption) ?_
    rotate_left 1
    · intro w' hSw; (try dsimp only at hSw); go_simp; try with_reducible rfl
    simp only [Act.put, List.getElem_toArray, List.getElem_cons_zero, List.getElem_cons_succ, List.setIfInBounds_toArray, List.set_cons_zero, List.set_cons_succ]
    refine wpAnyH_done (by kernel_rfl) ?_ _
    go_split_ands
    have kf : Blk w15 w.heap.size 34 #[.int .i64 v, .slice A n c] := by assumption
    have kr : Blk w15 (w.heap.size + 1) 46 #[.int .i64 st, .slice G gn gc] := by assumption
    have kx : Blk w15 bx 25 #[.int .i64 v, .slice X n xc] := by assumption
    have ky : Blk w15 by_ 40 #[.int .i64 st, .slice Y gn yc] := by assumption
    have hX : OwnP w15 xb X n xc l := by assumption
    have hY : w15.ownsRow yb 9 1 (.slice Y gn yc) gn (done.map Value.string) := by assumption
    have hB : Below w.heap.size w w15 := by assumption
    go_wp2_with fail
    refine wp_region_held_drew (S := (fun w' => w'.cell? ⟨w.heap.size, 0, none⟩ = some (.int .i64 v) ∧ w'.cell? ⟨w.heap.size, 1, none⟩ = some (.slice A n c) ∧ w'.cell? ⟨w.heap.size + 1, 0, none⟩ = some (.int .i64 st) ∧ w'.cell? ⟨w.heap.size + 1, 1, none⟩ = some (.slice G gn gc) ∧ w'.cell? ⟨bx, 0, none⟩ = some (.int .i64 v) ∧ w'.cell? ⟨bx, 1, none⟩ = some (.slice X n xc) ∧ w'.cell? ⟨by_, 0, none⟩ = some (.int .i64 st) ∧ w'.cell? ⟨by_, 1, none⟩ = some (.slice Y gn yc) ∧ Blk w' w.heap.size 34 #[.int .i64 v, .slice A n c] ∧ Blk w' (w.heap.size + 1) 46 #[.int .i64 st, .slice G gn gc] ∧ Blk w' bx 25 #[.int .i64 v, .slice X n xc] ∧ Blk w' by_ 40 #[.int .i64 st, .slice Y gn yc] ∧ OwnP w' xb X n xc l ∧ w'.ownsRow yb 9 1 (.slice Y gn yc) gn (done.map Value.string) ∧ Below w.heap.size w w')) (by kernel_rfl) ?_ (fun hHeld => ?_)
    · exact ⟨kf.cell 0, kf.cell 1, kr.cell 0, kr.cell 1, kx.cell 0, kx.cell 1, ky.cell 0, ky.cell 1, kf.dr, kr.dr, kx.dr, ky.dr, hX.dr, hY, bel_dr hB⟩
    refine wpAnyH_take (i := 0) (v := ?_) rfl (by kernel_rfl) (by kernel_rfl) (by kernel_rfl) (fun _ _ _ h => h) (Or.inl ⟨by kernel_rfl, ?_⟩) (by assumption) ?_
    rotate_left 1
    · intro w' hSw; (try dsimp only at hSw); go_simp; try with_reducible rfl
    simp only [Act.put, List.getElem_toArray, List.getElem_cons_zero, List.setIfInBounds_toArray, List.set_cons_zero, List.set_cons_succ]
    refine wpAnyH_take (i := 1) (v := ?_) rfl (by kernel_rfl) (by kernel_rfl) (by kernel_rfl) (fun _ _ _ h => h) (Or.inl ⟨by kernel_rfl, ?_⟩) (by assumption) ?_
    rotate_left 1
    · intro w' hSw; (try dsimp only at hSw); go_simp; try with_reducible rfl
    simp only [Act.put, List.getElem_toArray, List.getElem_cons_zero, List.getElem_cons_succ, List.setIfInBounds_toArray, List.set_cons_zero, List.set_cons_succ]
    refine wpAnyH_ready (rs := [2]) (by kernel_rfl) (by simp) ?_
    refine AllReadyH.cons rfl (fun K hK => ?_) AllReadyH.nil
    go_simp
    go_at_call 28
    refine (toRun_c st G gn gc done _ (HQ.out.bel (by go_split_ands; assumption)) hgn).mono ?_
    rintro e w16 ⟨E16, ec16, rfl, hE16, hb16⟩
    refine hK.out _ _ ?_ (fun hHeld => ?_)
    · (go_split_ands; exact ⟨cell_on hb16 (by assumption), cell_on hb16 (by assumption), cell_on hb16 (by assumption), cell_on hb16 (by assumption), cell_on hb16 (by assumption), cell_on hb16 (by assumption), cell_on hb16 (by assumption), cell_on hb16 (by assumption), Blk.bel (by assumption) hb16, Blk.bel (by assumption) hb16, Blk.bel (by assumption) hb16, Blk.bel (by assumption) hb16, OwnP.bel (by assumption) hb16, own_bel (by assumption) hb16, bel_nx (by assumption) hb16⟩)
    clear hK K
    try simp only [Act.put, List.getElem_toArray, List.getElem_cons_zero, List.getElem_cons_succ, List.setIfInBounds_toArray, List.set_cons_zero, List.set_cons_succ]
    refine wpAnyH_ready (rs := [3]) (by kernel_rfl) (by simp) ?_
    refine AllReadyH.cons rfl (fun K hK => ?_) AllReadyH.nil
    go_simp
    go_at_call 29
    refine (eqRun_same st Y E16 gn yc gn ec16 done _ (SlS.of_own (B := yb) (e := 9) (by go_split_ands; assumption)) (SlS.of_own hE16)).mono ?_
    rintro e w17 ⟨rfl, hb17⟩
    refine hK.out _ _ ?_ (fun hHeld => ?_)
    · (go_split_ands; exact ⟨cell_on hb17 (by assumption), cell_on hb17 (by assumption), cell_on hb17 (by assumption), cell_on hb17 (by assumption), cell_on hb17 (by assumption), cell_on hb17 (by assumption), cell_on hb17 (by assumption), cell_on hb17 (by assumption), Blk.bel (by assumption) hb17, Blk.bel (by assumption) hb17, Blk.bel (by assumption) hb17, Blk.bel (by assumption) hb17, OwnP.bel (by assumption) hb17, own_bel (by assumption) hb17, bel_nx (by assumption) hb17⟩)
    clear hK K
    try simp only [Act.put, List.getElem_toArray, List.getElem_cons_zero, List.getElem_cons_succ, List.setIfInBounds_toArray, List.set_cons_zero, List.set_cons_succ]
    refine wpAnyH_take (i := 4) (v := ?_) rfl (by kernel_rfl) (by kernel_rfl) (by kernel_rfl) (fun _ _ _ h => h) (Or.inl ⟨by kernel_rfl, ?_⟩) (by assumption) ?_
    rotate_left 1
    · intro w' hSw; (try dsimp only at hSw); go_simp; try with_reducible rfl
    simp only [Act.put, List.getElem_toArray, List.getElem_cons_zero, List.getElem_cons_succ, List.setIfInBounds_toArray, List.set_cons_zero, List.set_cons_succ]
    refine wpAnyH_done (by kernel_rfl) ?_ _
    go_split_ands
    have kf : Blk w17 w.heap.size 34 #[.int .i64 v, .slice A n c] := by assumption
    have kr : Blk w17 (w.heap.size + 1) 46 #[.int .i64 st, .slice G gn gc] := by assumption
    have kx : Blk w17 bx 25 #[.int .i64 v, .slice X n xc] := by assumption
    have ky : Blk w17 by_ 40 #[.int .i64 st, .slice Y gn yc] := by assumption
    have hX : OwnP w17 xb X n xc l := by assumption
    have hY : w17.ownsRow yb 9 1 (.slice Y gn yc) gn (done.map Value.string) := by assumption
    have hB : Below w.heap.size w w17 := by assumption
    go_wp2_with fail
    go_ret
    exact ⟨rfl, hB⟩

set_option maxRecDepth 100000 in
theorem fnExactUndoPoint_l (os : Os) (started : os.Started) (H : Type) (enc : TypeId × Value → H) :
    ReturnsInHanded {} Try.checked os 6 .any (Rows.fnExactUndoPointSpec.pre6 enc Try.prog Try.f6 Rows.fnExactUndoPointRow.domain false) (Rows.fnExactUndoPointSpec.post enc Try.prog Try.f6 false true false false) := by
  refine returnsInHanded_of_change (C := Try.checked) own started (by kernel_rfl) Try.func6
    (ChangeSpec.witness6 (enc := enc) (C := Try.checked) false ⟨#[], #[.agg #[.int .i64 0, .slice none 0 0], .agg #[.int .i64 0, .slice none 0 0]], []⟩ 8 (by kernel_rfl) (by kernel_rfl) (by kernel_rfl) (by kernel_rfl)) ?_
  intro W base args ds gs before hval0 hW hcnd _
  have hval : ∀ (j : Nat) t v, Try.f6.params[j]? = some t → args[j]? = some v → Value.okWide Try.prog W .any base t v := hval0
  have hW' := hW
  obtain ⟨p, q, hA0, hV, rfl, hfz, hnd⟩ := hW
  have hA : DataW.TrodAll enc Try.prog W 0 (fun _ => true) true Try.f6.params.toList args.toList ds p := hA0
  rw [Try.params6] at hA hval
  obtain ⟨v0, vs0, d0, ds0, p0, q0, hargs, rfl, rfl, h0, r0⟩ := trodAll_cons hA
  obtain ⟨v1, vs1, d1, ds1, p1, q1, rfl, rfl, rfl, h1, r1⟩ := trodAll_cons r0
  obtain ⟨rfl, rfl, rfl⟩ := trodAll_nil r1
  obtain rfl : args = #[v0, v1] := by cases args; simp_all
  obtain ⟨rfl, rfl⟩ := trodVars_none hV
  have k0 := h0
  have lt0 : ∀ x ∈ p0, x.block < W.heap.size := by obtain ⟨m, hm⟩ := k0; exact DataW.trod_lt m _ _ _ hm
  obtain ⟨c0, v0, y0, y1, m, rfl, _, _, hy0, hy1⟩ := open_agg2 Try.underlying34 (by kernel_rfl) (show Try.prog.cellsOf 34 = 2 by kernel_rfl) (hval 0 34 v0 rfl rfl) h0
  obtain ⟨a0, e0, _, wa0⟩ := DataW.trod_int Try.underlying3 hy0
  simp at e0
  subst e0
  obtain ⟨A0, n0, cc0, l0, ev, w0, z0⟩ := steps_read hy1 (fun _ => rfl)
  simp at ev
  subst ev
  have k1 := h1
  have lt1 : ∀ x ∈ p1, x.block < W.heap.size := by obtain ⟨m, hm⟩ := k1; exact DataW.trod_lt m _ _ _ hm
  obtain ⟨c1, v1, y0, y1, m, rfl, _, _, hy0, hy1⟩ := open_agg2 Try.underlying46 (by kernel_rfl) (show Try.prog.cellsOf 46 = 2 by kernel_rfl) (hval 1 46 v1 rfl rfl) h1
  obtain ⟨a1, e0, _, wa1⟩ := DataW.trod_int Try.underlying3 hy0
  simp at e0
  subst e0
  obtain ⟨A1, n1, cc1, l1, ev, w1, z1⟩ := texts_read hy1 (fun _ => rfl)
  simp at ev
  subst ev
  clear hA0 hval0
  refine (exactUndoPoint_w a0 A0 n0 cc0 l0 a1 A1 n1 cc1 l1 W w0 z0 w1 z1).mono fun e W' ⟨he, bel⟩ => ?_
  subst he
  exact ⟨_, rfl, _, _, _, [], _, [], hW', trodAll_mk1 (shut_bool Try.underlying4 _), (trodAll_cons_mk (Below.trod laidOut (by kernel_rfl) (of_decide_eq_true (by kernel_rfl)) k0 bel lt0) (trodAll_cons_mk (Below.trod laidOut (by kernel_rfl) (of_decide_eq_true (by kernel_rfl)) k1 bel lt1) trodAll_mk0)), rfl, bel.frame _, fun h => by cases h⟩

theorem fnExactUndoPoint_holds : Rows.FnExactUndoPointSaid :=
  OpenClaim.holds_of_wide 6 Try.f6 rfl rfl rfl rfl rfl rfl rfl ⟨rfl, rfl, rfl, rfl, rfl⟩ rfl rfl rfl rfl rfl (by kernel_rfl) Try.func6 (by kernel_rfl)
    (of_decide_eq_true (by kernel_rfl)) (by unfold Func.isWrapper; first | (rw [if_pos (by decide +kernel)]; kernel_rfl) | (rw [if_neg (by decide +kernel)]; exact ⟨rfl, rfl⟩))
    (fun os started H enc _ => fnExactUndoPoint_l os started H enc)
#print axioms fnExactUndoPoint_holds

end Go.Proofs.Ytdchfiiaollheaa
