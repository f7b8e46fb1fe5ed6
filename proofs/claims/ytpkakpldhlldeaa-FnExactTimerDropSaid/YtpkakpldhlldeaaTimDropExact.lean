/- For all timers and every name the program's TimerDrop returns what the reference's returns, leaves its arguments as they were, and shares no memory. No conditions. -/
import Derived.Test.YtpkakpldhlldeaaTimDrop
import Derived.Test.YtpkakpldhlldeaaTimMark
import Derived.Test.YtpkakpldhlldeaaTimRow
namespace Go.Proofs.Ytpkakpldhlldeaa
open Go.ChangeShapes Go.WideShapes Go.ChangeAt Go.RowKit Go.Joins

theorem eqTL_self (l : List R2) : eqTL l l = true := decide_eq_true rfl

theorem dropR_len (l : List R2) (s : ByteArray) : (dropR l s).1.length ≤ l.length := by
  have h : ∀ q : Bool, (if q = true then (withF l s, true) else (([] : List R2), false)).1.length ≤ l.length := by
    intro q
    cases q
    · simp
    · simpa using withF_len l s
  exact h _

set_option maxRecDepth 20000 in
set_option maxHeartbeats 2000000 in
theorem exactTimerDrop_w (A : Option Addr) (n c : Nat) (l : List R2) (s : ByteArray) (w : World) (h : SlT w A n c l) (hz : SzT l) : Calls Try.prog 9 #[.slice A n c, .string s] w fun e w' => e = .returned (.bool true) ∧ Below w.heap.size w w' := by
  have HE := Lib.hid eqTL_self
  have HH := Lib.hid h
  have HL := Lib.hid h.len
  obtain ⟨⟨lr, br⟩, hR⟩ : ∃ R, dropR l s = R := ⟨_, rfl⟩
  have hlr : lr.length ≤ l.length := by have := dropR_len l s; rw [hR] at this; exact this
  have HLR := Lib.hid hlr
  have HR := Lib.hid hR
  clear hR hlr
  by_cases hs1 : 1048576 < s.size
  · go_enter Try.func9, Try.ntmps9
    go_wp2_with fail
    go_ret
    exact ⟨rfl, Below.refl _ _⟩
  go_enter Try.func9, Try.ntmps9
  go_wp2_with fail
  refine (szTimerS_c A n c l _ 1048576 h hz (by omega) (by omega)).mono ?_
  rintro e w0 ⟨r, rfl, hr, hb0⟩
  have h := h.bel hb0
  rcases hr with hr | ⟨hr0, hr1, hr2⟩
  · go_wp2_with fail
    go_ret
    exact ⟨rfl, hb0⟩
  go_wp2_with fail
  refine (toTimerS_c _ _ _ l _ h (by omega)).mono ?_
  rintro e w1 ⟨A1, c1, rfl, hown1, hb1⟩
  have h := h.bel hb1
  go_wp2_with fail
  refine (specTimerDrop_c _ _ _ l s _ (SlT.of_own hown1) hz (by omega)).mono ?_
  rintro e w2 ⟨AW, nW, cW, rfl, hW, hb2⟩
  rw [HR.out] at hW ⊢
  have hW2 := hW
  have h := h.bel hb2
  go_wp2_with fail
  refine (toTimerS_c _ _ _ l _ h (by omega)).mono ?_
  rintro e w3 ⟨AX, cX, rfl, hX, hb3⟩
  have hX3 := hX
  have h := h.bel hb3
  have hW := own_bel hW hb3
  go_wp2_with fail
  refine (implTimerDrop_c _ _ _ l s _ (SlT.of_own hX) hz (by omega)).mono ?_
  rintro e w4 ⟨AG, nG, cG, rfl, hG, hb4⟩
  rw [HR.out] at hG ⊢
  have hG4 := hG
  have h := h.bel hb4
  have hW := own_bel hW hb4
  have hX := own_bel hX hb4
  have hnG : nG = lr.length := own_count2 hG
  have hnG2 : nG ≤ 1048576 := by have := HLR.out; have := HL.out; omega
  have HNG := Lib.hid hnG
  clear hnG
  go_wp2_with fail
  refine (eqTimerS_c _ _ _ _ _ _ lr lr _ (SlT.of_own hG) (SlT.of_own hW)).mono ?_
  rintro e w5 ⟨rfl, hb5⟩
  rw [HE.out lr]
  have h := h.bel hb5
  have hW := own_bel hW hb5
  have hX := own_bel hX hb5
  have hG := own_bel hG hb5
  go_wp2_with fail
  refine (toTimerS_c _ _ _ l _ h (by omega)).mono ?_
  rintro e w6 ⟨A6, c6, rfl, hown6, hb6⟩
  have h := h.bel hb6
  have hW := own_bel hW hb6
  have hX := own_bel hX hb6
  have hG := own_bel hG hb6
  go_wp2_with fail
  refine (eqTimerS_c _ _ _ _ _ _ l l _ (SlT.of_own hX) (SlT.of_own hown6)).mono ?_
  rintro e w7 ⟨rfl, hb7⟩
  rw [HE.out l]
  have h := h.bel hb7
  have hW := own_bel hW hb7
  have hX := own_bel hX hb7
  have hG := own_bel hG hb7
  have hbA := bel_nx (bel_nx (bel_nx (bel_nx (bel_nx (bel_nx (bel_nx hb0 hb1) hb2) hb3) hb4) hb5) hb6) hb7
  have hz2 := (bel_nx (bel_nx hb0 hb1) hb2).size
  have hz3 := (bel_nx (bel_nx (bel_nx hb0 hb1) hb2) hb3).size
  have aWX := (own_apart hW2 hX (Nat.le_refl _)).1
  have aGX := (own_apart hX3 hG (Nat.le_refl _)).2
  have aWG := (own_apart hW2 hG4 hb3.size).1
  have hlt7 : ∀ j, (Value.slice AX n cX).ownBlock = some j → w.heap.size ≤ j := fun j hj => Nat.le_trans hz2 (hX.lt j hj).1
  have hlG : ∀ j, (Value.slice AG nG cG).ownBlock = some j → w.heap.size ≤ j := fun j hj => Nat.le_trans hz3 (hG.lt j hj).1
  clear hW2 hX3 hG4
  go_wp2_with fail
  refine (markTimerS_c _ _ _ _ 1 l _ hX (by omega) (by omega)).mono ?_
  rintro e w8 ⟨rfl, hX8, hg8⟩
  have hW := hW.kept hg8 aWX
  have hG := hG.kept hg8 aGX
  have hbB := hbA.grown hg8 hbA.size hlt7
  have k0 : (0 : Int) ≤ ((1 + 2 * n : Nat) : Int) := by omega
  go_wp2_with fail
  refine (eqTimerS_c _ _ _ _ _ _ lr lr _ (SlT.of_own hG) (SlT.of_own hW)).mono ?_
  rintro e w9 ⟨rfl, hb9⟩
  rw [HE.out lr]
  have hW := own_bel hW hb9
  have hG := own_bel hG hb9
  have hbC := bel_nx hbB hb9
  go_wp2_with fail
  refine (markTimerS_c _ _ _ _ 1 lr _ hG (by omega) (by omega)).mono ?_
  rintro e w10 ⟨rfl, hG10, hg10⟩
  have hW := hW.kept hg10 aWG
  have hbD := hbC.grown hg10 hbC.size hlG
  go_wp2_with fail
  refine (heldTimerS_c _ _ _ 1 _ (SlT.of_own hG10) (by omega) (by omega)).mono ?_
  rintro e w11 ⟨rfl, hb11⟩
  have hW := own_bel hW hb11
  have hG := own_bel hG10 hb11
  have hbE := bel_nx hbD hb11
  have k1 : (0 : Int) ≤ ((1 + 2 * nG : Nat) : Int) := by omega
  go_wp2_with fail
  refine (toTimerS_c _ _ _ l _ (HH.out.bel hbE) (by omega)).mono ?_
  rintro e w12 ⟨A12, c12, rfl, hown12, hb12⟩
  have hW := own_bel hW hb12
  have hG := own_bel hG hb12
  go_wp2_with fail
  refine (implTimerDrop_c _ _ _ l s _ (SlT.of_own hown12) hz (by omega)).mono ?_
  rintro e w13 ⟨AJ, nJ, cJ, rfl, hJ, hb13⟩
  rw [HR.out] at hJ ⊢
  have hW := own_bel hW hb13
  have hG := own_bel hG hb13
  go_wp2_with fail
  refine (eqTimerS_c _ _ _ _ _ _ lr lr _ (SlT.of_own hJ) (SlT.of_own hW)).mono ?_
  rintro e w14 ⟨rfl, hb14⟩
  rw [HE.out lr]
  have hG := own_bel hG hb14
  go_wp2_with fail
  refine (heldTimerS_c _ _ _ 1 _ (SlT.of_own hG) (by omega) (by omega)).mono ?_
  rintro e w15 ⟨rfl, hb15⟩
  go_wp2_with fail
  go_ret
  exact ⟨rfl, bel_nx (bel_nx (bel_nx (bel_nx hbE hb12) hb13) hb14) hb15⟩

set_option maxRecDepth 100000 in
theorem fnExactTimerDrop_l (os : Os) (started : os.Started) (H : Type) (enc : TypeId × Value → H) :
    ReturnsInHanded {} Try.checked os 9 .any (Rows.fnExactTimerDropSpec.pre6 enc Try.prog Try.f9 Rows.fnExactTimerDropRow.domain false) (Rows.fnExactTimerDropSpec.post enc Try.prog Try.f9 false true false false) := by
  refine returnsInHanded_of_change (C := Try.checked) own started (by kernel_rfl) Try.func9
    (ChangeSpec.witness6 (enc := enc) (C := Try.checked) false ⟨#[], #[.slice none 0 0, .string ByteArray.empty], []⟩ 8 (by kernel_rfl) (by kernel_rfl) (by kernel_rfl) (by kernel_rfl)) ?_
  intro W base args ds gs before hval0 hW hcnd _
  have hval : ∀ (j : Nat) t v, Try.f9.params[j]? = some t → args[j]? = some v → Value.okWide Try.prog W .any base t v := hval0
  have hW' := hW
  obtain ⟨p, q, hA0, hV, rfl, hfz, hnd⟩ := hW
  have hA : DataW.TrodAll enc Try.prog W 0 (fun _ => true) true Try.f9.params.toList args.toList ds p := hA0
  rw [Try.params9] at hA hval
  obtain ⟨v0, vs0, d0, ds0, p0, q0, hargs, rfl, rfl, h0, r0⟩ := trodAll_cons hA
  obtain ⟨v1, vs1, d1, ds1, p1, q1, rfl, rfl, rfl, h1, r1⟩ := trodAll_cons r0
  obtain ⟨rfl, rfl, rfl⟩ := trodAll_nil r1
  obtain rfl : args = #[v0, v1] := by cases args; simp_all
  obtain ⟨rfl, rfl⟩ := trodVars_none hV
  have k0 := h0
  have lt0 : ∀ x ∈ p0, x.block < W.heap.size := by obtain ⟨m, hm⟩ := k0; exact DataW.trod_lt m _ _ _ hm
  obtain ⟨A0, n0, c0, rfl⟩ := okWide_slice Try.underlying33 (hval 0 33 v0 rfl rfl)
  obtain ⟨l0, w0, z0⟩ := tims_row h0 (fun _ => rfl)
  have k1 := h1
  have lt1 : ∀ x ∈ p1, x.block < W.heap.size := by obtain ⟨m, hm⟩ := k1; exact DataW.trod_lt m _ _ _ hm
  obtain ⟨s1, rfl, _, _, ws1⟩ := ChangeMaps.open_string Try.underlying9 (hval 1 9 v1 rfl rfl) h1
  clear hA0 hval0
  refine (exactTimerDrop_w A0 n0 c0 l0 s1 W w0 z0).mono fun e W' ⟨he, bel⟩ => ?_
  subst he
  exact ⟨_, rfl, _, _, _, [], _, [], hW', trodAll_mk1 (shut_bool Try.underlying4 _), (trodAll_cons_mk (Below.trod laidOut (by kernel_rfl) (of_decide_eq_true (by kernel_rfl)) k0 bel lt0) (trodAll_cons_mk (Below.trod laidOut (by kernel_rfl) (of_decide_eq_true (by kernel_rfl)) k1 bel lt1) trodAll_mk0)), rfl, bel.frame _, fun h => by cases h⟩

theorem fnExactTimerDrop_holds : Rows.FnExactTimerDropSaid :=
  OpenClaim.holds_of_wide 9 Try.f9 rfl rfl rfl rfl rfl rfl rfl ⟨rfl, rfl, rfl, rfl, rfl⟩ rfl rfl rfl rfl rfl (by kernel_rfl) Try.func9 (by kernel_rfl)
    (of_decide_eq_true (by kernel_rfl)) (by unfold Func.isWrapper; first | (rw [if_pos (by decide +kernel)]; kernel_rfl) | (rw [if_neg (by decide +kernel)]; exact ⟨rfl, rfl⟩))
    (fun os started H enc _ => fnExactTimerDrop_l os started H enc)
#print axioms fnExactTimerDrop_holds

end Go.Proofs.Ytpkakpldhlldeaa
