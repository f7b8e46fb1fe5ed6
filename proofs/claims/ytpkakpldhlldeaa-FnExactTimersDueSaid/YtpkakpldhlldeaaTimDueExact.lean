/- For all timers and every time the program's TimersDue returns what the reference's returns, leaves its arguments as they were, and shares no memory. No conditions. -/
import Derived.Test.YtpkakpldhlldeaaTimDueS
import Derived.Test.YtpkakpldhlldeaaTimMark
import Derived.Test.YtpkakpldhlldeaaTimRow
namespace Go.Proofs.Ytpkakpldhlldeaa
open Go.ChangeShapes Go.WideShapes Go.ChangeAt Go.RowKit Go.Joins

theorem eqStringS_same (A B : Option Addr) (n c n' c' : Nat) (l : List ByteArray) (w : World) (h : SlS w A n c l) (h' : SlS w B n' c' l) : Calls Try.prog 31 #[.slice A n c, .slice B n' c'] w fun e w' => e = .returned (.bool true) ∧ Below w.heap.size w w' :=
  (eqStringS_c A B n c n' c' l l w h h').mono fun e w' ⟨h1, q, h2⟩ => ⟨by rw [h1]; exact ret_bool (decide_eq_true rfl), by rw [h2]; exact bel_drN (bel_refl _) q⟩
theorem eqTimerS_same (A B : Option Addr) (n c n' c' : Nat) (l : List R2) (w : World) (h : SlT w A n c l) (h' : SlT w B n' c' l) : Calls Try.prog 21 #[.slice A n c, .slice B n' c'] w fun e w' => e = .returned (.bool true) ∧ Below w.heap.size w w' :=
  (eqTimerS_c A B n c n' c' l l w h h').mono fun e w' ⟨h1, h2⟩ => ⟨by rw [h1]; exact ret_bool (decide_eq_true rfl), h2⟩

set_option maxRecDepth 20000 in
set_option maxHeartbeats 4000000 in
theorem exactTimersDue_w (A : Option Addr) (n c : Nat) (l : List R2) (t : Int) (w : World) (h : SlT w A n c l) (hz : SzT l) : Calls Try.prog 10 #[.slice A n c, .int .i64 t] w fun e w' => e = .returned (.bool true) ∧ Below w.heap.size w w' := by
  have HH := Lib.hid h
  obtain ⟨⟨dl, fl, ok⟩, hR⟩ : ∃ R, dueR l t = R := ⟨_, rfl⟩
  have HR := Lib.hid hR
  clear hR
  go_enter Try.func10, Try.ntmps10
  go_wp2_with fail
  refine (szTimerS_c A n c l _ 1048576 h hz (by omega) (by omega)).mono ?_
  rintro e w0 ⟨r, rfl, hr, hB⟩
  clear h
  rcases hr with hr | ⟨hr0, hr1, hr2⟩
  · go_wp2_with fail
    go_ret
    exact ⟨rfl, hB⟩
  go_wp2_with fail
  refine (toTimerS_c _ _ _ l _ (HH.out.bel hB) (by omega)).mono ?_
  rintro e w1 ⟨A1, c1, rfl, ho1, hb1⟩
  have hB := bel_nx hB hb1
  go_wp2_with fail
  refine (specTimersDue_c _ _ _ l t _ (SlT.of_own ho1) hz).mono ?_
  rintro e w2 ⟨E, en, ec, G, gn, gc, rfl, hE, hG, hen, hgn, hb2⟩
  rw [HR.out] at hE hG ⊢
  have hE2 := hE
  have hG2 := hG
  have hB2 := hB.size
  have hB := bel_nx hB hb2
  go_wp2_with fail
  refine (toTimerS_c _ _ _ l _ (HH.out.bel hB) (by omega)).mono ?_
  rintro e w3 ⟨AX, cX, rfl, hX, hb3⟩
  have hE := own_bel hE hb3
  have hG := own_bel hG hb3
  have hB := bel_nx hB hb3
  have hX3 := hX
  have hB3 := hB.size
  go_wp2_with fail
  refine (implTimersDue_c _ _ _ l t _ (SlT.of_own hX) hz).mono ?_
  rintro e w4 ⟨D, dn, dc, F, fn, fc, rfl, hD, hF, hdn, hfn, hb4⟩
  rw [HR.out] at hD hF ⊢
  have hD4 := hD
  have hF4 := hF
  have hE := own_bel hE hb4
  have hG := own_bel hG hb4
  have hX := own_bel hX hb4
  have hB := bel_nx hB hb4
  go_wp2_with fail
  refine (eqStringS_same _ _ _ _ _ _ dl _ (SlS.of_own hD) (SlS.of_own hE)).mono ?_
  rintro e w5 ⟨rfl, hb5⟩
  have hE := own_bel hE hb5
  have hG := own_bel hG hb5
  have hX := own_bel hX hb5
  have hD := own_bel hD hb5
  have hF := own_bel hF hb5
  have hB := bel_nx hB hb5
  go_wp2_with fail
  refine (eqTimerS_same _ _ _ _ _ _ fl _ (SlT.of_own hF) (SlT.of_own hG)).mono ?_
  rintro e w6 ⟨rfl, hb6⟩
  have hE := own_bel hE hb6
  have hG := own_bel hG hb6
  have hX := own_bel hX hb6
  have hD := own_bel hD hb6
  have hF := own_bel hF hb6
  have hB := bel_nx hB hb6
  go_wp2_with fail
  refine (toTimerS_c _ _ _ l _ (HH.out.bel hB) (by omega)).mono ?_
  rintro e w7 ⟨A6, c6, rfl, ho6, hb7⟩
  have hE := own_bel hE hb7
  have hG := own_bel hG hb7
  have hX := own_bel hX hb7
  have hD := own_bel hD hb7
  have hF := own_bel hF hb7
  have hB := bel_nx hB hb7
  go_wp2_with fail
  refine (eqTimerS_same _ _ _ _ _ _ l _ (SlT.of_own hX) (SlT.of_own ho6)).mono ?_
  rintro e w8 ⟨rfl, hb8⟩
  have hE := own_bel hE hb8
  have hG := own_bel hG hb8
  have hX := own_bel hX hb8
  have hD := own_bel hD hb8
  have hF := own_bel hF hb8
  have hB := bel_nx hB hb8
  have aEX := (own_apart hE2 hX3 (Nat.le_refl _)).1
  have aGX := (own_apart hG2 hX3 (Nat.le_refl _)).1
  have aDX := (own_apart hX3 hD4 (Nat.le_refl _)).2
  have aFX := (own_apart hX3 hF4 (Nat.le_refl _)).2
  have aED := (own_apart hE2 hD4 hb3.size).1
  have aGD := (own_apart hG2 hD4 hb3.size).1
  have aEF := (own_apart hE2 hF4 hb3.size).1
  have aGF := (own_apart hG2 hF4 hb3.size).1
  have aFD := own_ne_own hF hD (by decide)
  have aDF := own_ne_own hD hF (by decide)
  have lX : ∀ j, (Value.slice AX n cX).ownBlock = some j → w.heap.size ≤ j := fun j hj => by have := (hX.lt j hj).1; have := hb2.size; omega
  have lD : ∀ j, (Value.slice D dn dc).ownBlock = some j → w.heap.size ≤ j := fun j hj => by have := (hD.lt j hj).1; have := hb2.size; have := hb3.size; omega
  have lF : ∀ j, (Value.slice F fn fc).ownBlock = some j → w.heap.size ≤ j := fun j hj => by have := (hF.lt j hj).1; have := hb2.size; have := hb3.size; omega
  clear hE2 hG2 hX3 hD4 hF4
  go_wp2_with fail
  refine (markTimerS_c _ _ _ _ 1 l _ hX (by omega) (by omega)).mono ?_
  rintro e w9 ⟨rfl, hXm, hg9⟩
  have hE := hE.kept hg9 aEX
  have hG := hG.kept hg9 aGX
  have hD := hD.kept hg9 aDX
  have hF := hF.kept hg9 aFX
  have hB := hB.grown hg9 hB.size lX
  have k0 : (0 : Int) ≤ ((1 + 2 * n : Nat) : Int) := by omega
  go_wp2_with fail
  refine (eqStringS_same _ _ _ _ _ _ dl _ (SlS.of_own hD) (SlS.of_own hE)).mono ?_
  rintro e w10 ⟨rfl, hb10⟩
  have hE := own_bel hE hb10
  have hG := own_bel hG hb10
  have hD := own_bel hD hb10
  have hF := own_bel hF hb10
  have hB := bel_nx hB hb10
  go_wp2_with fail
  refine (eqTimerS_same _ _ _ _ _ _ fl _ (SlT.of_own hF) (SlT.of_own hG)).mono ?_
  rintro e w11 ⟨rfl, hb11⟩
  have hE := own_bel hE hb11
  have hG := own_bel hG hb11
  have hD := own_bel hD hb11
  have hF := own_bel hF hb11
  have hB := bel_nx hB hb11
  go_wp2_with fail
  refine (markStringS_c _ _ _ _ 1 dl _ hD (by omega) (by omega)).mono ?_
  rintro e w12 ⟨rfl, hDm, hg12⟩
  have hE := hE.kept hg12 aED
  have hG := hG.kept hg12 aGD
  have hF := hF.kept hg12 aFD
  have hB := hB.grown hg12 hB.size lD
  have hD := hDm
  go_wp2_with fail
  refine (markTimerS_c _ _ _ _ (1 + dn) fl _ hF (by omega) (by omega)).mono ?_
  rintro e w13 ⟨rfl, hFm, hg13⟩
  have hE := hE.kept hg13 aEF
  have hG := hG.kept hg13 aGF
  have hD := hD.kept hg13 aDF
  have hB := hB.grown hg13 hB.size lF
  have hF := hFm
  go_wp2_with fail
  refine (heldStringS_c _ _ _ 1 _ (SlS.of_own hD) (by omega) (by omega)).mono ?_
  rintro e w14 ⟨rfl, hb14⟩
  have hE := own_bel hE hb14
  have hG := own_bel hG hb14
  have hD := own_bel hD hb14
  have hF := own_bel hF hb14
  have hB := bel_nx hB hb14
  have k1 : (0 : Int) ≤ ((1 + dn : Nat) : Int) := by omega
  go_wp2_with fail
  refine (heldTimerS_c _ _ _ (1 + dn) _ (SlT.of_own hF) (by omega) (by omega)).mono ?_
  rintro e w15 ⟨rfl, hb15⟩
  have hE := own_bel hE hb15
  have hG := own_bel hG hb15
  have hD := own_bel hD hb15
  have hF := own_bel hF hb15
  have hB := bel_nx hB hb15
  have k2 : (0 : Int) ≤ ((1 + dn + 2 * fn : Nat) : Int) := by omega
  go_wp2_with fail
  refine (toTimerS_c _ _ _ l _ (HH.out.bel hB) (by omega)).mono ?_
  rintro e w16 ⟨A12, c12, rfl, ho12, hb16⟩
  have hE := own_bel hE hb16
  have hG := own_bel hG hb16
  have hD := own_bel hD hb16
  have hF := own_bel hF hb16
  have hB := bel_nx hB hb16
  go_wp2_with fail
  refine (implTimersDue_c _ _ _ l t _ (SlT.of_own ho12) hz).mono ?_
  rintro e w17 ⟨D2, dn2, dc2, F2, fn2, fc2, rfl, hI, hJ, hdn2, hfn2, hb17⟩
  rw [HR.out] at hI hJ ⊢
  have hE := own_bel hE hb17
  have hG := own_bel hG hb17
  have hD := own_bel hD hb17
  have hF := own_bel hF hb17
  have hB := bel_nx hB hb17
  go_wp2_with fail
  refine (eqStringS_same _ _ _ _ _ _ dl _ (SlS.of_own hI) (SlS.of_own hE)).mono ?_
  rintro e w18 ⟨rfl, hb18⟩
  have hE := own_bel hE hb18
  have hG := own_bel hG hb18
  have hD := own_bel hD hb18
  have hF := own_bel hF hb18
  have hI := own_bel hI hb18
  have hJ := own_bel hJ hb18
  have hB := bel_nx hB hb18
  go_wp2_with fail
  refine (eqTimerS_same _ _ _ _ _ _ fl _ (SlT.of_own hJ) (SlT.of_own hG)).mono ?_
  rintro e w19 ⟨rfl, hb19⟩
  have hE := own_bel hE hb19
  have hG := own_bel hG hb19
  have hD := own_bel hD hb19
  have hF := own_bel hF hb19
  have hI := own_bel hI hb19
  have hJ := own_bel hJ hb19
  have hB := bel_nx hB hb19
  go_wp2_with fail
  refine (heldStringS_c _ _ _ 1 _ (SlS.of_own hD) (by omega) (by omega)).mono ?_
  rintro e w20 ⟨rfl, hb20⟩
  have hE := own_bel hE hb20
  have hG := own_bel hG hb20
  have hD := own_bel hD hb20
  have hF := own_bel hF hb20
  have hI := own_bel hI hb20
  have hJ := own_bel hJ hb20
  have hB := bel_nx hB hb20
  have k1 : (0 : Int) ≤ ((1 + dn : Nat) : Int) := by omega
  go_wp2_with fail
  refine (heldTimerS_c _ _ _ (1 + dn) _ (SlT.of_own hF) (by omega) (by omega)).mono ?_
  rintro e w21 ⟨rfl, hb21⟩
  have hE := own_bel hE hb21
  have hG := own_bel hG hb21
  have hD := own_bel hD hb21
  have hF := own_bel hF hb21
  have hI := own_bel hI hb21
  have hJ := own_bel hJ hb21
  have hB := bel_nx hB hb21
  have k2 : (0 : Int) ≤ ((1 + dn + 2 * fn : Nat) : Int) := by omega
  go_wp2_with fail
  go_ret
  exact ⟨rfl, hB⟩

set_option maxRecDepth 100000 in
theorem fnExactTimersDue_l (os : Os) (started : os.Started) (H : Type) (enc : TypeId × Value → H) :
    ReturnsInHanded {} Try.checked os 10 .any (Rows.fnExactTimersDueSpec.pre6 enc Try.prog Try.f10 Rows.fnExactTimersDueRow.domain false) (Rows.fnExactTimersDueSpec.post enc Try.prog Try.f10 false true false false) := by
  refine returnsInHanded_of_change (C := Try.checked) own started (by kernel_rfl) Try.func10
    (ChangeSpec.witness6 (enc := enc) (C := Try.checked) false ⟨#[], #[.slice none 0 0, .int .i64 0], []⟩ 8 (by kernel_rfl) (by kernel_rfl) (by kernel_rfl) (by kernel_rfl)) ?_
  intro W base args ds gs before hval0 hW hcnd _
  have hval : ∀ (j : Nat) t v, Try.f10.params[j]? = some t → args[j]? = some v → Value.okWide Try.prog W .any base t v := hval0
  have hW' := hW
  obtain ⟨p, q, hA0, hV, rfl, hfz, hnd⟩ := hW
  have hA : DataW.TrodAll enc Try.prog W 0 (fun _ => true) true Try.f10.params.toList args.toList ds p := hA0
  rw [Try.params10] at hA hval
  obtain ⟨v0, vs0, d0, ds0, p0, q0, hargs, rfl, rfl, h0, r0⟩ := trodAll_cons hA
  obtain ⟨v1, vs1, d1, ds1, p1, q1, rfl, rfl, rfl, h1, r1⟩ := trodAll_cons r0
  obtain ⟨rfl, rfl, rfl⟩ := trodAll_nil r1
  obtain rfl : args = #[v0, v1] := by cases args; simp_all
  obtain ⟨rfl, rfl⟩ := trodVars_none hV
  have k0 := h0
  have lt0 : ∀ x ∈ p0, x.block < W.heap.size := by obtain ⟨m, hm⟩ := k0; exact DataW.trod_lt m _ _ _ hm
  obtain ⟨A0, n0, c0, rfl⟩ := okWide_slice Try.underlying33 (hval 0 33 v0 rfl rfl)
  obtain ⟨l0, w0, z0⟩ := tims_row h0 (fun _ => rfl)
  have k1 := h1
  have lt1 : ∀ x ∈ p1, x.block < W.heap.size := by obtain ⟨m, hm⟩ := k1; exact DataW.trod_lt m _ _ _ hm
  obtain ⟨x1, rfl, _, _, wx1⟩ := open_int Try.underlying3 (hval 1 3 v1 rfl rfl) h1
  clear hA0 hval0
  refine (exactTimersDue_w A0 n0 c0 l0 x1 W w0 z0).mono fun e W' ⟨he, bel⟩ => ?_
  subst he
  exact ⟨_, rfl, _, _, _, [], _, [], hW', trodAll_mk1 (shut_bool Try.underlying4 _), (trodAll_cons_mk (Below.trod laidOut (by kernel_rfl) (of_decide_eq_true (by kernel_rfl)) k0 bel lt0) (trodAll_cons_mk (Below.trod laidOut (by kernel_rfl) (of_decide_eq_true (by kernel_rfl)) k1 bel lt1) trodAll_mk0)), rfl, bel.frame _, fun h => by cases h⟩

theorem fnExactTimersDue_holds : Rows.FnExactTimersDueSaid :=
  OpenClaim.holds_of_wide 10 Try.f10 rfl rfl rfl rfl rfl rfl rfl ⟨rfl, rfl, rfl, rfl, rfl⟩ rfl rfl rfl rfl rfl (by kernel_rfl) Try.func10 (by kernel_rfl)
    (of_decide_eq_true (by kernel_rfl)) (by unfold Func.isWrapper; first | (rw [if_pos (by decide +kernel)]; kernel_rfl) | (rw [if_neg (by decide +kernel)]; exact ⟨rfl, rfl⟩))
    (fun os started H enc _ => fnExactTimersDue_l os started H enc)
#print axioms fnExactTimersDue_holds

end Go.Proofs.Ytpkakpldhlldeaa
