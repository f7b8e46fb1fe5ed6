/- For every code that timers and a name are drawn from: a dropped timer is gone. No conditions. -/
import Derived.Test.YtpkakpldhlldeaaTimPlain2
import Derived.Test.YtpkakpldhlldeaaTimDraws
import Derived.Test.YtpkakpldhlldeaaTimSame
import Derived.Test.YtpkakpldhlldeaaTexts
import Derived.Test.YtpkakpldhlldeaaLift
namespace Go.Proofs.Ytpkakpldhlldeaa
open Go.ChangeShapes Go.WideShapes Go.ChangeAt Go.RowKit Go.Joins

theorem sameTimers_same (A B : Option Addr) (n c n' c' : Nat) (l : List R2) (w : World) (h : SlT w A n c l) (h' : SlT w B n' c' l) : Calls Try.prog 15 #[.slice A n c, .slice B n' c'] w fun e w' => e = .returned (.bool true) ∧ Below w.heap.size w w' :=
  (sameTimers_c A B n c n' c' l l w h h').mono fun e w' ⟨h1, h2⟩ => ⟨by rw [h1]; exact ret_bool (decide_eq_true rfl), h2⟩

set_option maxRecDepth 20000 in
set_option maxHeartbeats 2000000 in
theorem fnTimerDrop_w (A : Option Addr) (n c : Nat) (zs : List Int) (w : World) (h : IsRow .u8 w A n c zs) : Calls Try.prog 8 #[.slice A n c] w fun e w' => e = .returned (.bool true) ∧ Below w.heap.size w w' := by
  obtain ⟨l1, l2⟩ := row_len h
  by_cases hn : 1048576 < n
  · go_enter Try.func8, Try.ntmps8
    go_wp2_with fail
    go_ret
    exact ⟨rfl, Below.refl _ _⟩
  have g1 : (n : Int) ≤ 1048576 := by omega
  clear hn
  go_enter Try.func8, Try.ntmps8
  go_wp2_with fail
  refine (drawTimerDrop_c A n c zs _ h).mono ?_
  rintro e w1 ⟨B, m, d, l, s, rfl, hs, hm, h5, hs6, hW⟩
  have hz := sz5T_szT h5
  have HM := Lib.hid hs.len
  obtain ⟨⟨fl, ok⟩, hR⟩ : ∃ R, dropR l s = R := ⟨_, rfl⟩
  have HR := Lib.hid hR
  clear hR
  go_wp2_with fail
  refine (implTimerDrop_c _ _ _ l s _ hs hz (by omega)).mono ?_
  rintro e w2 ⟨F, fn, fc, rfl, hF, hb2⟩
  rw [HR.out] at hF ⊢
  have hs := hs.bel hb2 
  have hW := bel_nx hW hb2
  go_wp2_with fail
  refine (specTimerDrop_c _ _ _ l s _ hs hz (by omega)).mono ?_
  rintro e w3 ⟨G, gn, gc, rfl, hG, hb3⟩
  rw [HR.out] at hG ⊢
  have hs := hs.bel hb3 
  have hF := own_bel hF hb3
  have hW := bel_nx hW hb3
  go_wp2_with fail
  refine (sameTimers_same _ _ _ _ _ _ fl _ (SlT.of_own hF) (SlT.of_own hG)).mono ?_
  rintro e w4 ⟨rfl, hb4⟩
  have hs := hs.bel hb4 
  have hF := own_bel hF hb4
  have hG := own_bel hG hb4
  have hW := bel_nx hW hb4
  cases ok
  · go_wp2_with fail
    refine (sameTimers_same _ _ _ _ _ _ fl _ (SlT.of_own hF) (SlT.of_own hG)).mono ?_
    rintro e w5 ⟨rfl, hb5⟩
    have hs := hs.bel hb5 
    have hF := own_bel hF hb5
    have hG := own_bel hG hb5
    have hW := bel_nx hW hb5
    go_wp2_with fail
    go_ret
    exact ⟨rfl, hW⟩
  obtain ⟨hv, hl, hd⟩ := drop_law HR.out
  have HV := Lib.hid hv
  have HD := Lib.hid hd
  have hzf := timB_sz hv
  have hfn : fn + 1 = m := by rw [own_count2 hF, hl]; exact HM.out
  subst hfn
  have hw1 : IntKind.i64.wrap ((fn : Int) + 1 - 1) = (fn : Int) := by rw [IntKind.wrap_i64]; omega
  clear hv hl hd
  go_wp2_with fail
  refine (implTimerDrop_c _ _ _ fl s _ (SlT.of_own hF) hzf (by omega)).mono ?_
  rintro e w5 ⟨J, jn, jc, rfl, hJ, hb5⟩
  rw [HD.out]
  have hs := hs.bel hb5 
  have hF := own_bel hF hb5
  have hG := own_bel hG hb5
  have hW := bel_nx hW hb5
  go_wp2_with fail
  refine (implTimersValid_c _ _ _ fl _ (SlT.of_own hF) hzf).mono ?_
  rintro e w6 ⟨rfl, hb6⟩
  rw [HV.out]
  have hs := hs.bel hb6 
  have hF := own_bel hF hb6
  have hG := own_bel hG hb6
  have hW := bel_nx hW hb6
  go_wp2_with fail
  go_ret
  exact ⟨ret_bool (by simp), hW⟩

set_option maxRecDepth 100000 in
theorem fnTimerDrop_l (os : Os) (started : os.Started) (H : Type) (enc : TypeId × Value → H) :
    ReturnsInHanded {} Try.checked os 8 .any (Rows.fnTimerDropSpec.pre6 enc Try.prog Try.f8 Rows.fnTimerDropRow.domain false) (Rows.fnTimerDropSpec.post enc Try.prog Try.f8 false true false false) := by
  refine returnsInHanded_of_change (C := Try.checked) own started (by kernel_rfl) Try.func8
    (ChangeSpec.witness6 (enc := enc) (C := Try.checked) false ⟨#[], #[.slice none 0 0], []⟩ 8 (by kernel_rfl) (by kernel_rfl) (by kernel_rfl) (by kernel_rfl)) ?_
  intro W base args ds gs before hval0 hW hcnd _
  have hval : ∀ (j : Nat) t v, Try.f8.params[j]? = some t → args[j]? = some v → Value.okWide Try.prog W .any base t v := hval0
  have hW' := hW
  obtain ⟨p, q, hA0, hV, rfl, hfz, hnd⟩ := hW
  have hA : DataW.TrodAll enc Try.prog W 0 (fun _ => true) true Try.f8.params.toList args.toList ds p := hA0
  rw [Try.params8] at hA hval
  obtain ⟨v0, vs0, d0, ds0, p0, q0, hargs, rfl, rfl, h0, r0⟩ := trodAll_cons hA
  obtain ⟨rfl, rfl, rfl⟩ := trodAll_nil r0
  obtain rfl : args = #[v0] := by cases args; simp_all
  obtain ⟨rfl, rfl⟩ := trodVars_none hV
  have k0 := h0
  have lt0 : ∀ x ∈ p0, x.block < W.heap.size := by obtain ⟨m, hm⟩ := k0; exact DataW.trod_lt m _ _ _ hm
  obtain ⟨A0, n0, c0, rfl⟩ := okWide_slice Try.underlying22 (hval 0 22 v0 rfl rfl)
  obtain ⟨z0, w0⟩ := bytes_row h0 (fun _ => rfl)
  clear hA0 hval0
  refine (fnTimerDrop_w A0 n0 c0 z0 W w0).mono fun e W' ⟨he, bel⟩ => ?_
  subst he
  exact ⟨_, rfl, _, _, _, [], _, [], hW', trodAll_mk1 (shut_bool Try.underlying4 _), (trodAll_cons_mk (Below.trod laidOut (by kernel_rfl) (of_decide_eq_true (by kernel_rfl)) k0 bel lt0) trodAll_mk0), rfl, bel.frame _, fun h => by cases h⟩

theorem fnTimerDrop_holds : Rows.FnTimerDropSaid :=
  OpenClaim.holds_of_wide 8 Try.f8 rfl rfl rfl rfl rfl rfl rfl ⟨rfl, rfl, rfl, rfl, rfl⟩ rfl rfl rfl rfl rfl (by kernel_rfl) Try.func8 (by kernel_rfl)
    (of_decide_eq_true (by kernel_rfl)) (by unfold Func.isWrapper; first | (rw [if_pos (by decide +kernel)]; kernel_rfl) | (rw [if_neg (by decide +kernel)]; exact ⟨rfl, rfl⟩))
    (fun os started H enc _ => fnTimerDrop_l os started H enc)
#print axioms fnTimerDrop_holds

end Go.Proofs.Ytpkakpldhlldeaa
