/- For all timers and every timer the program's TimerPut returns what the reference's returns, leaves its arguments as they were, and shares no memory. No conditions. -/
import Derived.Test.YtpkakpldhlldeaaTimPut
import Derived.Test.YtpkakpldhlldeaaTimPutS
import Derived.Test.YtpkakpldhlldeaaTimMark
import Derived.Test.YtpkakpldhlldeaaTimRow
import Derived.Deep.RegionWith
namespace Go.Proofs.Ytpkakpldhlldeaa
open Go.ChangeShapes Go.WideShapes Go.ChangeAt Go.RowKit Go.Joins

theorem eqTimerS_same (A B : Option Addr) (n c n' c' : Nat) (l : List R2) (w : World) (h : SlT w A n c l) (h' : SlT w B n' c' l) : Calls Try.prog 21 #[.slice A n c, .slice B n' c'] w fun e w' => e = .returned (.bool true) ∧ Below w.heap.size w w' :=
  (eqTimerS_c A B n c n' c' l l w h h').mono fun e w' ⟨h1, h2⟩ => ⟨by rw [h1]; exact ret_bool (decide_eq_true rfl), h2⟩
theorem putR_len (l : List R2) (x : R2) : (putR l x).1.length ≤ l.length + 1 := by
  have h : ∀ q : Bool, (if q = true then (insT x (withF l x.2), true) else (([] : List R2), false)).1.length ≤ l.length + 1 := by
    intro q
    cases q
    · simp
    · have := withF_len l x.2
      simp [insT_len]
      exact this
  exact h _

set_option maxRecDepth 20000 in
set_option maxHeartbeats 10000000 in
theorem exactTimerPut_w (A : Option Addr) (n c : Nat) (l : List R2) (x : Int) (s : ByteArray) (w : World) (h : SlT w A n c l) (hz : SzT l) (hsz : s.size ≤ 9223372036854775807) : Calls Try.prog 4 #[.slice A n c, .agg #[.int .i64 x, .string s]] w fun e w' => e = .returned (.bool true) ∧ Below w.heap.size w w' := by
  have HH := Lib.hid h
  have HL := Lib.hid h.len
  obtain ⟨⟨lr, br⟩, hR⟩ : ∃ R, putR l (x, s) = R := ⟨_, rfl⟩
  have hlr : lr.length ≤ l.length + 1 := by have := putR_len l (x, s); rw [hR] at this; exact this
  have HLR := Lib.hid hlr
  have HR := Lib.hid hR
  clear hR hlr
  have kb := Blk.new w 34 #[.int .i64 x, .string s]
  have hB := bel_al (bel_refl w) (.cells #[.int .i64 x, .string s] 34)
  have h := h.al (.cells #[.int .i64 x, .string s] 34)
  go_enter Try.func4, Try.ntmps4
  go_wp2_with fail
  refine (szTimerS_c A n c l _ 1048576 h hz (by omega) (by omega)).mono ?_
  rintro e wz ⟨r, rfl, hr, hbz⟩
  have kb := kb.bel hbz
  have hB := bel_nx hB hbz
  clear h hbz
  have ck := kb.cell
  rcases hr with hr | ⟨hr0, hr1, hr2⟩
  · go_wp2_with fail
    go_ret
    exact ⟨rfl, hB⟩
  go_wp2_with fail
  refine (szTimer_c x r s _ hr0 hr1 hsz).mono ?_
  rintro e w0 ⟨rfl, hb0⟩
  have kb := kb.bel hb0
  have hB := bel_nx hB hb0
  clear hb0 ck
  have ck := kb.cell
  by_cases hrs : r < s.size
  · rw [if_pos hrs]
    go_wp2_with fail
    go_ret
    exact ⟨rfl, hB⟩
  rw [if_neg hrs]
  have hrs0 : 0 ≤ r - s.size := by omega
  go_wp2_with fail
  go_cut [6, 7] (fun v6 v7 wc => ∃ (AW : Option Addr) (nW cW : Nat), v6 = .slice AW nW cW ∧ v7 = .bool br ∧ wc.ownsRow w0.heap.size 25 2 (.slice AW nW cW) nW (lr.flatMap encT) ∧ Below w0.heap.size w0 wc)
  case first =>
    have h0 := HH.out.bel hB
    go_region_with ((first
      | (go_at_call 19; refine (toTimerS_c _ _ _ l _ (by first | exact h0 | exact h0.dr | exact HH.out.bel (bel_nx hB hBb)) (by omega)).mono ?_; rintro e wa ⟨A1, c1, rfl, hown1, hba⟩; have hBa : Below w0.heap.size w0 wa := (by first | exact hba | exact bel_nx hBb hba | exact bel_nx (bel_dr (bel_refl _)) hba); have hsa : wa.ownsRow w0.heap.size 25 2 (.slice A1 n c1) n (l.flatMap encT) := (by first | exact hown1 | exact ownsRow_base hown1 hBb.size); have cka := (kb.bel hBa).cell)
      | (go_at_call 20; refine (toTimer_c x s _).mono ?_; rintro e wb ⟨rfl, hbb⟩; have hBb : Below w0.heap.size w0 wb := (by first | exact bel_nx hBa hbb | exact hbb | exact bel_nx (bel_dr (bel_refl _)) hbb); have ckb := (kb.bel hBb).cell; try (have hsa := own_bel hsa hbb))
      | (go_at_call 14; refine (specTimerPut_c A1 n c1 l x s _ (SlT.of_own hsa) hz hsz (by omega)).mono ?_; rintro e wd ⟨AW, nW, cW, rfl, hW, hbd⟩; rw [HR.out] at hW; (try rw [HR.out]); have hBd : Below w0.heap.size w0 wd := (by first | exact bel_nx hBa hbd | exact bel_nx hBb hbd); have hWd := ownsRow_base (B' := w0.heap.size) hW (by first | exact hBa.size | exact hBb.size))))
    all_goals (go_wp2_with fail; go_meet)
    all_goals case rel => exact ⟨AW, nW, cW, rfl, rfl, hWd, hBd⟩
  case rest =>
    obtain ⟨AW, nW, cW, rfl, rfl, hW, hbc⟩ := hcut
    have kb := kb.bel hbc
    have hB := bel_nx hB hbc
    clear hbc
    have ck := kb.cell
    go_wp2_with fail
    have hW2 := hW
    have hkW := kb.lt
    refine (toTimerS_c _ _ _ l _ (HH.out.bel hB) (by omega)).mono ?_
    rintro e w2 ⟨AX, cX, rfl, hX, hb2⟩
    have kb := kb.bel hb2
    have hW := own_bel hW hb2
    have hB := bel_nx hB hb2
    have ck := kb.cell
    have hX3 := hX
    have hbX := hb2
    go_wp2_with fail
    refine (toTimer_c x s _).mono ?_
    rintro e w3 ⟨rfl, hb3⟩
    have kb := kb.bel hb3
    have hW := own_bel hW hb3
    have hX := own_bel hX hb3
    have hB := bel_nx hB hb3
    have ck := kb.cell
    go_wp2_with fail
    refine (implTimerPut_c _ _ _ l x s _ (SlT.of_own hX) hz hsz (by omega)).mono ?_
    rintro e w4 ⟨AG, nG, cG, rfl, hG, hb4⟩
    rw [HR.out] at hG ⊢
    have hG4 := hG
    have hnG : nG = lr.length := own_count2 hG
    have hnG2 : nG ≤ 1048577 := by have := HLR.out; have := HL.out; omega
    have HNG := Lib.hid hnG
    clear hnG
    have kb := kb.bel hb4
    have hW := own_bel hW hb4
    have hX := own_bel hX hb4
    have hB := bel_nx hB hb4
    have ck := kb.cell
    go_wp2_with fail
    refine (eqTimerS_same _ _ _ _ _ _ lr _ (SlT.of_own hG) (SlT.of_own hW)).mono ?_
    rintro e w5 ⟨rfl, hb5⟩
    have kb := kb.bel hb5
    have hW := own_bel hW hb5
    have hX := own_bel hX hb5
    have hG := own_bel hG hb5
    have hB := bel_nx hB hb5
    have ck := kb.cell
    go_wp2_with fail
    refine (toTimerS_c _ _ _ l _ (HH.out.bel hB) (by omega)).mono ?_
    rintro e w6 ⟨A6, c6, rfl, ho6, hb6⟩
    have kb := kb.bel hb6
    have hW := own_bel hW hb6
    have hX := own_bel hX hb6
    have hG := own_bel hG hb6
    have hB := bel_nx hB hb6
    have ck := kb.cell
    go_wp2_with fail
    refine (eqTimerS_same _ _ _ _ _ _ l _ (SlT.of_own hX) (SlT.of_own ho6)).mono ?_
    rintro e w7 ⟨rfl, hb7⟩
    have kb := kb.bel hb7
    have hW := own_bel hW hb7
    have hX := own_bel hX hb7
    have hG := own_bel hG hb7
    have hB := bel_nx hB hb7
    have ck := kb.cell
    have aWX := (own_apart hW2 hX3 (Nat.le_refl _)).1
    have aGX := (own_apart hX3 hG4 (by have := hb3.size; omega)).2
    have aWG := (own_apart hW2 hG4 (by have := hbX.size; have := hb3.size; omega)).1
    have lX : ∀ j, (Value.slice AX n cX).ownBlock = some j → w.heap.size + 1 ≤ j := fun j hj => by have := (hX3.lt j hj).1; have := hkW; omega
    have lG : ∀ j, (Value.slice AG nG cG).ownBlock = some j → w.heap.size + 1 ≤ j := fun j hj => by have := (hG4.lt j hj).1; have := hbX.size; have := hkW; have := hb3.size; omega
    clear hW2 hX3 hG4
    go_wp2_with fail
    refine (markTimerS_c _ _ _ _ 1 l _ hX (by omega) (by omega)).mono ?_
    rintro e w8 ⟨rfl, hXm, hg8⟩
    have hW := hW.kept hg8 aWX
    have hG := hG.kept hg8 aGX
    have kb := kb.gr hg8 (fun e => by have := lX _ e.symm; omega)
    have hB := hB.grown hg8 hB.size (fun j hj => by have := lX j hj; omega)
    have ck := kb.cell
    have k0 : (0 : Int) ≤ ((1 + 2 * n : Nat) : Int) := by omega
    go_wp2_with fail
    refine (eqTimerS_same _ _ _ _ _ _ lr _ (SlT.of_own hG) (SlT.of_own hW)).mono ?_
    rintro e w9 ⟨rfl, hb9⟩
    have kb := kb.bel hb9
    have hW := own_bel hW hb9
    have hG := own_bel hG hb9
    have hB := bel_nx hB hb9
    have ck := kb.cell
    go_wp2_with fail
    refine (markTimerS_c _ _ _ _ 1 lr _ hG (by omega) (by omega)).mono ?_
    rintro e w10 ⟨rfl, hGm, hg10⟩
    have hW := hW.kept hg10 aWG
    have kb := kb.gr hg10 (fun e => by have := lG _ e.symm; omega)
    have hB := hB.grown hg10 hB.size (fun j hj => by have := lG j hj; omega)
    have ck := kb.cell
    have hG := hGm
    go_wp2_with fail
    refine (heldTimerS_c _ _ _ 1 _ (SlT.of_own hG) (by omega) (by omega)).mono ?_
    rintro e w11 ⟨rfl, hb11⟩
    have kb := kb.bel hb11
    have hW := own_bel hW hb11
    have hG := own_bel hG hb11
    have hB := bel_nx hB hb11
    have ck := kb.cell
    have k1 : (0 : Int) ≤ ((1 + 2 * nG : Nat) : Int) := by omega
    go_wp2_with fail
    go_cut [14, 15] (fun v6 v7 wc => ∃ (AW : Option Addr) (nW cW : Nat), v6 = .slice AW nW cW ∧ v7 = .bool br ∧ wc.ownsRow w11.heap.size 25 2 (.slice AW nW cW) nW (lr.flatMap encT) ∧ Below w11.heap.size w11 wc)
    case first =>
      have h0 := HH.out.bel hB
      go_region_with ((first
        | (go_at_call 19; refine (toTimerS_c _ _ _ l _ (by first | exact h0 | exact h0.dr | exact HH.out.bel (bel_nx hB hBb)) (by omega)).mono ?_; rintro e wa ⟨A1, c1, rfl, hown1, hba⟩; have hBa : Below w11.heap.size w11 wa := (by first | exact hba | exact bel_nx hBb hba | exact bel_nx (bel_dr (bel_refl _)) hba); have hsa : wa.ownsRow w11.heap.size 25 2 (.slice A1 n c1) n (l.flatMap encT) := (by first | exact hown1 | exact ownsRow_base hown1 hBb.size); have cka := (kb.bel hBa).cell)
        | (go_at_call 20; refine (toTimer_c x s _).mono ?_; rintro e wb ⟨rfl, hbb⟩; have hBb : Below w11.heap.size w11 wb := (by first | exact bel_nx hBa hbb | exact hbb | exact bel_nx (bel_dr (bel_refl _)) hbb); have ckb := (kb.bel hBb).cell; try (have hsa := own_bel hsa hbb))
        | (go_at_call 13; refine (implTimerPut_c A1 n c1 l x s _ (SlT.of_own hsa) hz hsz (by omega)).mono ?_; rintro e wd ⟨AW, nW, cW, rfl, hW, hbd⟩; rw [HR.out] at hW; (try rw [HR.out]); have hBd : Below w11.heap.size w11 wd := (by first | exact bel_nx hBa hbd | exact bel_nx hBb hbd); have hWd := ownsRow_base (B' := w11.heap.size) hW (by first | exact hBa.size | exact hBb.size))))
      all_goals (go_wp2_with fail; go_meet)
      all_goals case rel => exact ⟨AW, nW, cW, rfl, rfl, hWd, hBd⟩
    case rest =>
      obtain ⟨AJ, nJ, cJ, rfl, rfl, hJ, hbc⟩ := hcut
      have kb := kb.bel hbc
      have hW := own_bel hW hbc
      have hG := own_bel hG hbc
      have hB := bel_nx hB hbc
      clear hbc
      have ck := kb.cell
      go_wp2_with fail
      refine (eqTimerS_same _ _ _ _ _ _ lr _ (SlT.of_own hJ) (SlT.of_own hW)).mono ?_
      rintro e w13 ⟨rfl, hb13⟩
      have kb := kb.bel hb13
      have hW := own_bel hW hb13
      have hG := own_bel hG hb13
      have hJ := own_bel hJ hb13
      have hB := bel_nx hB hb13
      have ck := kb.cell
      go_wp2_with fail
      refine (heldTimerS_c _ _ _ 1 _ (SlT.of_own hG) (by omega) (by omega)).mono ?_
      rintro e w14 ⟨rfl, hb14⟩
      have kb := kb.bel hb14
      have hW := own_bel hW hb14
      have hG := own_bel hG hb14
      have hJ := own_bel hJ hb14
      have hB := bel_nx hB hb14
      have ck := kb.cell
      go_wp2_with fail
      go_ret
      exact ⟨rfl, hB⟩

set_option maxRecDepth 100000 in
theorem fnExactTimerPut_l (os : Os) (started : os.Started) (H : Type) (enc : TypeId × Value → H) :
    ReturnsInHanded {} Try.checked os 4 .any (Rows.fnExactTimerPutSpec.pre6 enc Try.prog Try.f4 Rows.fnExactTimerPutRow.domain false) (Rows.fnExactTimerPutSpec.post enc Try.prog Try.f4 false true false false) := by
  refine returnsInHanded_of_change (C := Try.checked) own started (by kernel_rfl) Try.func4
    (ChangeSpec.witness6 (enc := enc) (C := Try.checked) false ⟨#[], #[.slice none 0 0, .agg #[.int .i64 0, .string ByteArray.empty]], []⟩ 8 (by kernel_rfl) (by kernel_rfl) (by kernel_rfl) (by kernel_rfl)) ?_
  intro W base args ds gs before hval0 hW hcnd _
  have hval : ∀ (j : Nat) t v, Try.f4.params[j]? = some t → args[j]? = some v → Value.okWide Try.prog W .any base t v := hval0
  have hW' := hW
  obtain ⟨p, q, hA0, hV, rfl, hfz, hnd⟩ := hW
  have hA : DataW.TrodAll enc Try.prog W 0 (fun _ => true) true Try.f4.params.toList args.toList ds p := hA0
  rw [Try.params4] at hA hval
  obtain ⟨v0, vs0, d0, ds0, p0, q0, hargs, rfl, rfl, h0, r0⟩ := trodAll_cons hA
  obtain ⟨v1, vs1, d1, ds1, p1, q1, rfl, rfl, rfl, h1, r1⟩ := trodAll_cons r0
  obtain ⟨rfl, rfl, rfl⟩ := trodAll_nil r1
  obtain rfl : args = #[v0, v1] := by cases args; simp_all
  obtain ⟨rfl, rfl⟩ := trodVars_none hV
  have k0 := h0
  have lt0 : ∀ x ∈ p0, x.block < W.heap.size := by obtain ⟨m, hm⟩ := k0; exact DataW.trod_lt m _ _ _ hm
  obtain ⟨A0, n0, c0, rfl⟩ := okWide_slice Try.underlying33 (hval 0 33 v0 rfl rfl)
  obtain ⟨l0, w0, z0⟩ := tims_row h0 (fun _ => rfl)
  have k1 := h1
  have lt1 : ∀ x ∈ p1, x.block < W.heap.size := by obtain ⟨m, hm⟩ := k1; exact DataW.trod_lt m _ _ _ hm
  obtain ⟨c1, v1, y0, y1, m, rfl, _, _, hy0, hy1⟩ := open_agg2 Try.underlying34 (by kernel_rfl) (show Try.prog.cellsOf 34 = 2 by kernel_rfl) (hval 1 34 v1 rfl rfl) h1
  obtain ⟨a1, e0, _, wa1⟩ := DataW.trod_int Try.underlying3 hy0
  obtain ⟨s1, e1, _, ws1⟩ := DataW.trod_string Try.underlying9 hy1
  simp at e0 e1
  subst e0 e1
  clear hA0 hval0
  refine (exactTimerPut_w A0 n0 c0 l0 a1 s1 W w0 z0 ws1).mono fun e W' ⟨he, bel⟩ => ?_
  subst he
  exact ⟨_, rfl, _, _, _, [], _, [], hW', trodAll_mk1 (shut_bool Try.underlying4 _), (trodAll_cons_mk (Below.trod laidOut (by kernel_rfl) (of_decide_eq_true (by kernel_rfl)) k0 bel lt0) (trodAll_cons_mk (Below.trod laidOut (by kernel_rfl) (of_decide_eq_true (by kernel_rfl)) k1 bel lt1) trodAll_mk0)), rfl, bel.frame _, fun h => by cases h⟩

theorem fnExactTimerPut_holds : Rows.FnExactTimerPutSaid :=
  OpenClaim.holds_of_wide 4 Try.f4 rfl rfl rfl rfl rfl rfl rfl ⟨rfl, rfl, rfl, rfl, rfl⟩ rfl rfl rfl rfl rfl (by kernel_rfl) Try.func4 (by kernel_rfl)
    (of_decide_eq_true (by kernel_rfl)) (by unfold Func.isWrapper; first | (rw [if_pos (by decide +kernel)]; kernel_rfl) | (rw [if_neg (by decide +kernel)]; exact ⟨rfl, rfl⟩))
    (fun os started H enc _ => fnExactTimerPut_l os started H enc)
#print axioms fnExactTimerPut_holds

end Go.Proofs.Ytpkakpldhlldeaa
