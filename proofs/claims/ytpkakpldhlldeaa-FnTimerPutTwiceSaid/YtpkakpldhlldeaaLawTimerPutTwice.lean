/- For every code that timers and a timer are drawn from: putting twice is putting once. No conditions. -/
import Derived.Test.YtpkakpldhlldeaaTimPut
import Derived.Test.YtpkakpldhlldeaaTimPutS
import Derived.Test.YtpkakpldhlldeaaTimPutDraw
import Derived.Test.YtpkakpldhlldeaaTimSame
import Derived.Test.YtpkakpldhlldeaaLift
namespace Go.Proofs.Ytpkakpldhlldeaa
open Go.ChangeShapes Go.WideShapes Go.ChangeAt Go.RowKit Go.Joins

theorem sameTimers_same (A B : Option Addr) (n c n' c' : Nat) (l : List R2) (w : World) (h : SlT w A n c l) (h' : SlT w B n' c' l) : Calls Try.prog 15 #[.slice A n c, .slice B n' c'] w fun e w' => e = .returned (.bool true) ∧ Below w.heap.size w w' :=
  (sameTimers_c A B n c n' c' l l w h h').mono fun e w' ⟨h1, h2⟩ => ⟨by rw [h1]; exact ret_bool (decide_eq_true rfl), h2⟩

set_option maxRecDepth 20000 in
set_option maxHeartbeats 2000000 in
theorem fnTimerPutTwice_w (A : Option Addr) (n c : Nat) (zs : List Int) (w : World) (h : IsRow .u8 w A n c zs) : Calls Try.prog 3 #[.slice A n c] w fun e w' => e = .returned (.bool true) ∧ Below w.heap.size w w' := by
  obtain ⟨l1, l2⟩ := row_len h
  by_cases hn : 1048576 < n
  · go_enter Try.func3, Try.ntmps3
    go_wp2_with fail
    go_ret
    exact ⟨rfl, Below.refl _ _⟩
  have g1 : (n : Int) ≤ 1048576 := by omega
  clear hn
  go_enter Try.func3, Try.ntmps3
  go_wp2_with fail
  refine (drawTimerPut_c A n c zs _ h).mono ?_
  rintro e w1 ⟨B, m, d, l, x, s, rfl, hs, hm, h5, hs6, hW⟩
  have hz := sz5T_szT h5
  have hsz : s.size ≤ 9223372036854775807 := by omega
  obtain ⟨⟨fl, ok⟩, hR⟩ : ∃ R, putR l (x, s) = R := ⟨_, rfl⟩
  have HR := Lib.hid hR
  clear hR
  have kb := Blk.new w1 25 #[.int .i64 x, .string s]
  have hs := hs.al (.cells #[.int .i64 x, .string s] 25)
  have hW := bel_al hW (.cells #[.int .i64 x, .string s] 25)
  have ck := kb.cell
  go_wp2_with fail
  refine (implTimerPut_c _ _ _ l x s _ hs hz hsz (by omega)).mono ?_
  rintro e w2 ⟨F, fn, fc, rfl, hF, hb2⟩
  rw [HR.out] at hF ⊢
  clear ck
  have hs := hs.bel hb2 
  have kb := kb.bel hb2 
  have hW := bel_nx hW hb2
  have ck := kb.cell
  go_wp2_with fail
  refine (specTimerPut_c _ _ _ l x s _ hs hz hsz (by omega)).mono ?_
  rintro e w3 ⟨G, gn, gc, rfl, hG, hb3⟩
  rw [HR.out] at hG ⊢
  clear ck
  have hs := hs.bel hb3 
  have kb := kb.bel hb3 
  have hF := own_bel hF hb3
  have hW := bel_nx hW hb3
  have ck := kb.cell
  go_wp2_with fail
  clear ck
  refine (sameTimers_same _ _ _ _ _ _ fl _ (SlT.of_own hF) (SlT.of_own hG)).mono ?_
  rintro e w4 ⟨rfl, hb4⟩
  have hs := hs.bel hb4 
  have kb := kb.bel hb4 
  have hF := own_bel hF hb4
  have hG := own_bel hG hb4
  have hW := bel_nx hW hb4
  cases ok
  · go_wp2_with fail
    refine (sameTimers_same _ _ _ _ _ _ fl _ (SlT.of_own hF) (SlT.of_own hG)).mono ?_
    rintro e w5 ⟨rfl, hb5⟩
    have hs := hs.bel hb5 
    have kb := kb.bel hb5 
    have hF := own_bel hF hb5
    have hG := own_bel hG hb5
    have hW := bel_nx hW hb5
    go_wp2_with fail
    go_ret
    exact ⟨rfl, hW⟩
  have ck := kb.cell
  have hL := put_law HR.out
  obtain ⟨hv, _, _, hlen, hput, hdrop⟩ := hL
  have HP := Lib.hid hput
  have HD := Lib.hid hdrop
  have hzf := timB_sz hv
  have hfl : fn = fl.length := own_count2 hF
  have hf8 : fn ≤ 8 := by rw [hfl]; exact (timB_iff.1 hv).1
  obtain ⟨yn, hyn⟩ : ∃ yn, (withF l s).length = yn := ⟨_, rfl⟩
  have hfy : fn = yn + 1 := by rw [hfl, hlen, ← hyn]
  have HY := Lib.hid hyn
  clear hv hlen hput hdrop hfl hyn
  subst hfy
  have hw1 : IntKind.i64.wrap ((yn : Int) + 1 - 1) = (yn : Int) := by rw [IntKind.wrap_i64]; omega
  go_wp2_with fail
  refine (implTimerPut_c _ _ _ fl x s _ (SlT.of_own hF) hzf hsz (by omega)).mono ?_
  rintro e w5 ⟨X, xn, xc, rfl, hX, hb5⟩
  rw [HP.out] at hX ⊢
  clear ck
  have hs := hs.bel hb5 
  have kb := kb.bel hb5 
  have hF := own_bel hF hb5
  have hG := own_bel hG hb5
  have hW := bel_nx hW hb5
  have ck := kb.cell
  go_wp2_with fail
  refine (implTimerDrop_c _ _ _ fl s _ (SlT.of_own hF) hzf (by omega)).mono ?_
  rintro e w6 ⟨Y, yn2, yc, rfl, hY, hb6⟩
  rw [HD.out] at hY ⊢
  have ey : yn2 = yn := by rw [own_count2 hY]; exact HY.out
  subst ey
  clear ck
  have hs := hs.bel hb6 
  have kb := kb.bel hb6 
  have hF := own_bel hF hb6
  have hG := own_bel hG hb6
  have hX := own_bel hX hb6
  have hW := bel_nx hW hb6
  go_wp2_with fail
  refine (sameTimers_same _ _ _ _ _ _ fl _ (SlT.of_own hX) (SlT.of_own hF)).mono ?_
  rintro e w7 ⟨rfl, hb7⟩
  have hs := hs.bel hb7 
  have kb := kb.bel hb7 
  have hF := own_bel hF hb7
  have hG := own_bel hG hb7
  have hX := own_bel hX hb7
  have hY := own_bel hY hb7
  have hW := bel_nx hW hb7
  go_wp2_with fail
  go_ret
  exact ⟨ret_bool (by simp), hW⟩

set_option maxRecDepth 100000 in
theorem fnTimerPutTwice_l (os : Os) (started : os.Started) (H : Type) (enc : TypeId × Value → H) :
    ReturnsInHanded {} Try.checked os 3 .any (Rows.fnTimerPutTwiceSpec.pre6 enc Try.prog Try.f3 Rows.fnTimerPutTwiceRow.domain false) (Rows.fnTimerPutTwiceSpec.post enc Try.prog Try.f3 false true false false) := by
  refine returnsInHanded_of_change (C := Try.checked) own started (by kernel_rfl) Try.func3
    (ChangeSpec.witness6 (enc := enc) (C := Try.checked) false ⟨#[], #[.slice none 0 0], []⟩ 8 (by kernel_rfl) (by kernel_rfl) (by kernel_rfl) (by kernel_rfl)) ?_
  intro W base args ds gs before hval0 hW hcnd _
  have hval : ∀ (j : Nat) t v, Try.f3.params[j]? = some t → args[j]? = some v → Value.okWide Try.prog W .any base t v := hval0
  have hW' := hW
  obtain ⟨p, q, hA0, hV, rfl, hfz, hnd⟩ := hW
  have hA : DataW.TrodAll enc Try.prog W 0 (fun _ => true) true Try.f3.params.toList args.toList ds p := hA0
  rw [Try.params3] at hA hval
  obtain ⟨v0, vs0, d0, ds0, p0, q0, hargs, rfl, rfl, h0, r0⟩ := trodAll_cons hA
  obtain ⟨rfl, rfl, rfl⟩ := trodAll_nil r0
  obtain rfl : args = #[v0] := by cases args; simp_all
  obtain ⟨rfl, rfl⟩ := trodVars_none hV
  have k0 := h0
  have lt0 : ∀ x ∈ p0, x.block < W.heap.size := by obtain ⟨m, hm⟩ := k0; exact DataW.trod_lt m _ _ _ hm
  obtain ⟨A0, n0, c0, rfl⟩ := okWide_slice Try.underlying22 (hval 0 22 v0 rfl rfl)
  obtain ⟨z0, w0⟩ := bytes_row h0 (fun _ => rfl)
  clear hA0 hval0
  refine (fnTimerPutTwice_w A0 n0 c0 z0 W w0).mono fun e W' ⟨he, bel⟩ => ?_
  subst he
  exact ⟨_, rfl, _, _, _, [], _, [], hW', trodAll_mk1 (shut_bool Try.underlying4 _), (trodAll_cons_mk (Below.trod laidOut (by kernel_rfl) (of_decide_eq_true (by kernel_rfl)) k0 bel lt0) trodAll_mk0), rfl, bel.frame _, fun h => by cases h⟩

theorem fnTimerPutTwice_holds : Rows.FnTimerPutTwiceSaid :=
  OpenClaim.holds_of_wide 3 Try.f3 rfl rfl rfl rfl rfl rfl rfl ⟨rfl, rfl, rfl, rfl, rfl⟩ rfl rfl rfl rfl rfl (by kernel_rfl) Try.func3 (by kernel_rfl)
    (of_decide_eq_true (by kernel_rfl)) (by unfold Func.isWrapper; first | (rw [if_pos (by decide +kernel)]; kernel_rfl) | (rw [if_neg (by decide +kernel)]; exact ⟨rfl, rfl⟩))
    (fun os started H enc _ => fnTimerPutTwice_l os started H enc)
#print axioms fnTimerPutTwice_holds

end Go.Proofs.Ytpkakpldhlldeaa
