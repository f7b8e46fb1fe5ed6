/- For every code that timers and a time are drawn from: at the end all is due. No conditions. -/
import Derived.Test.YtpkakpldhlldeaaTimPlain2
import Derived.Test.YtpkakpldhlldeaaTimDraws
import Derived.Test.YtpkakpldhlldeaaTimSame
import Derived.Test.YtpkakpldhlldeaaTexts
import Derived.Test.YtpkakpldhlldeaaLift
namespace Go.Proofs.Ytpkakpldhlldeaa
open Go.ChangeShapes Go.WideShapes Go.ChangeAt Go.RowKit Go.Joins

theorem sameTimers_same (A B : Option Addr) (n c n' c' : Nat) (l : List R2) (w : World) (h : SlT w A n c l) (h' : SlT w B n' c' l) : Calls Try.prog 15 #[.slice A n c, .slice B n' c'] w fun e w' => e = .returned (.bool true) ∧ Below w.heap.size w w' :=
  (sameTimers_c A B n c n' c' l l w h h').mono fun e w' ⟨h1, h2⟩ => ⟨by rw [h1]; exact ret_bool (decide_eq_true rfl), h2⟩
theorem sameTexts_same (A B : Option Addr) (n c n' c' : Nat) (l : List ByteArray) (w : World) (h : SlS w A n c l) (h' : SlS w B n' c' l) : Calls Try.prog 27 #[.slice A n c, .slice B n' c'] w fun e w' => e = .returned (.bool true) ∧ Below w.heap.size w w' :=
  (sameTexts_c A B n c n' c' l l w h h').mono fun e w' ⟨h1, q, h2⟩ => ⟨by rw [h1]; exact ret_bool (decide_eq_true rfl), by rw [h2]; exact bel_drN (bel_refl _) q⟩
theorem own_count1 {w : World} {B : Nat} {e : TypeId} {A : Option Addr} {n c : Nat} {l : List ByteArray} (h : w.ownsRow B e 1 (.slice A n c) n (l.map Value.string)) : n = l.length := by
  have := h.1
  simp at this
  exact this.symm

set_option maxRecDepth 20000 in
set_option maxHeartbeats 2000000 in
theorem fnDueAll_w (A : Option Addr) (n c : Nat) (zs : List Int) (w : World) (h : IsRow .u8 w A n c zs) : Calls Try.prog 5 #[.slice A n c] w fun e w' => e = .returned (.bool true) ∧ Below w.heap.size w w' := by
  obtain ⟨l1, l2⟩ := row_len h
  by_cases hn : 1048576 < n
  · go_enter Try.func5, Try.ntmps5
    go_wp2_with fail
    go_ret
    exact ⟨rfl, Below.refl _ _⟩
  have g1 : (n : Int) ≤ 1048576 := by omega
  clear hn
  go_enter Try.func5, Try.ntmps5
  go_wp2_with fail
  refine (drawTimersDue_c A n c zs _ h).mono ?_
  rintro e w1 ⟨B, m, d, l, t, rfl, hs, hm, h5, hW⟩
  have hz := sz5T_szT h5
  obtain ⟨⟨dl, fl, ok⟩, hR⟩ : ∃ R, dueR l t = R := ⟨_, rfl⟩
  have HR := Lib.hid hR
  clear hR
  go_wp2_with fail
  refine (implTimersDue_c _ _ _ l t _ hs hz).mono ?_
  rintro e w2 ⟨D, dn, dc, F, fn, fc, rfl, hD, hF, hdn, hfn, hb2⟩
  rw [HR.out] at hD hF ⊢
  have hs := hs.bel hb2 
  have hW := bel_nx hW hb2
  go_wp2_with fail
  refine (specTimersDue_c _ _ _ l t _ hs hz).mono ?_
  rintro e w3 ⟨E, en, ec, G, gn, gc, rfl, hE, hG, hen, hgn, hb3⟩
  rw [HR.out] at hE hG ⊢
  have hs := hs.bel hb3 
  have hD := own_bel hD hb3
  have hF := own_bel hF hb3
  have hW := bel_nx hW hb3
  go_wp2_with fail
  refine (sameTexts_same _ _ _ _ _ _ dl _ (SlS.of_own hD) (SlS.of_own hE)).mono ?_
  rintro e w4 ⟨rfl, hb4⟩
  have hs := hs.bel hb4 
  have hD := own_bel hD hb4
  have hF := own_bel hF hb4
  have hE := own_bel hE hb4
  have hG := own_bel hG hb4
  have hW := bel_nx hW hb4
  go_wp2_with fail
  refine (sameTimers_same _ _ _ _ _ _ fl _ (SlT.of_own hF) (SlT.of_own hG)).mono ?_
  rintro e w5 ⟨rfl, hb5⟩
  have hs := hs.bel hb5 
  have hD := own_bel hD hb5
  have hF := own_bel hF hb5
  have hE := own_bel hE hb5
  have hG := own_bel hG hb5
  have hW := bel_nx hW hb5
  cases ok
  · go_wp2_with fail
    refine (sameTexts_same _ _ _ _ _ _ dl _ (SlS.of_own hD) (SlS.of_own hE)).mono ?_
    rintro e w6 ⟨rfl, hb6⟩
    have hs := hs.bel hb6 
    have hD := own_bel hD hb6
    have hF := own_bel hF hb6
    have hE := own_bel hE hb6
    have hG := own_bel hG hb6
    have hW := bel_nx hW hb6
    go_wp2_with fail
    refine (sameTimers_same _ _ _ _ _ _ fl _ (SlT.of_own hF) (SlT.of_own hG)).mono ?_
    rintro e w7 ⟨rfl, hb7⟩
    have hs := hs.bel hb7 
    have hD := own_bel hD hb7
    have hF := own_bel hF hb7
    have hE := own_bel hE hb7
    have hG := own_bel hG hb7
    have hW := bel_nx hW hb7
    go_wp2_with fail
    go_ret
    exact ⟨rfl, hW⟩
  obtain ⟨HV, HT, _, _⟩ := due_ok HR.out
  have HA := Lib.hid (due_all HV)
  have HM := Lib.hid hs.len
  clear HV HT
  go_wp2_with fail
  refine (implTimersDue_c _ _ _ l 9999 _ hs hz).mono ?_
  rintro e w6 ⟨X, xn, xc, Y, yn, yc, rfl, hX, hY, hxn, hyn, hb6⟩
  rw [HA.out] at hX hY ⊢
  have ex : xn = m := by rw [own_count1 hX, namesT, List.length_map]; exact HM.out
  have ey : yn = 0 := own_count2 hY
  subst ex ey
  have hs := hs.bel hb6 
  have hD := own_bel hD hb6
  have hF := own_bel hF hb6
  have hE := own_bel hE hb6
  have hG := own_bel hG hb6
  have hW := bel_nx hW hb6
  go_wp2_with fail
  go_ret
  exact ⟨rfl, hW⟩

set_option maxRecDepth 100000 in
theorem fnDueAll_l (os : Os) (started : os.Started) (H : Type) (enc : TypeId × Value → H) :
    ReturnsInHanded {} Try.checked os 5 .any (Rows.fnDueAllSpec.pre6 enc Try.prog Try.f5 Rows.fnDueAllRow.domain false) (Rows.fnDueAllSpec.post enc Try.prog Try.f5 false true false false) := by
  refine returnsInHanded_of_change (C := Try.checked) own started (by kernel_rfl) Try.func5
    (ChangeSpec.witness6 (enc := enc) (C := Try.checked) false ⟨#[], #[.slice none 0 0], []⟩ 8 (by kernel_rfl) (by kernel_rfl) (by kernel_rfl) (by kernel_rfl)) ?_
  intro W base args ds gs before hval0 hW hcnd _
  have hval : ∀ (j : Nat) t v, Try.f5.params[j]? = some t → args[j]? = some v → Value.okWide Try.prog W .any base t v := hval0
  have hW' := hW
  obtain ⟨p, q, hA0, hV, rfl, hfz, hnd⟩ := hW
  have hA : DataW.TrodAll enc Try.prog W 0 (fun _ => true) true Try.f5.params.toList args.toList ds p := hA0
  rw [Try.params5] at hA hval
  obtain ⟨v0, vs0, d0, ds0, p0, q0, hargs, rfl, rfl, h0, r0⟩ := trodAll_cons hA
  obtain ⟨rfl, rfl, rfl⟩ := trodAll_nil r0
  obtain rfl : args = #[v0] := by cases args; simp_all
  obtain ⟨rfl, rfl⟩ := trodVars_none hV
  have k0 := h0
  have lt0 : ∀ x ∈ p0, x.block < W.heap.size := by obtain ⟨m, hm⟩ := k0; exact DataW.trod_lt m _ _ _ hm
  obtain ⟨A0, n0, c0, rfl⟩ := okWide_slice Try.underlying22 (hval 0 22 v0 rfl rfl)
  obtain ⟨z0, w0⟩ := bytes_row h0 (fun _ => rfl)
  clear hA0 hval0
  refine (fnDueAll_w A0 n0 c0 z0 W w0).mono fun e W' ⟨he, bel⟩ => ?_
  subst he
  exact ⟨_, rfl, _, _, _, [], _, [], hW', trodAll_mk1 (shut_bool Try.underlying4 _), (trodAll_cons_mk (Below.trod laidOut (by kernel_rfl) (of_decide_eq_true (by kernel_rfl)) k0 bel lt0) trodAll_mk0), rfl, bel.frame _, fun h => by cases h⟩

theorem fnDueAll_holds : Rows.FnDueAllSaid :=
  OpenClaim.holds_of_wide 5 Try.f5 rfl rfl rfl rfl rfl rfl rfl ⟨rfl, rfl, rfl, rfl, rfl⟩ rfl rfl rfl rfl rfl (by kernel_rfl) Try.func5 (by kernel_rfl)
    (of_decide_eq_true (by kernel_rfl)) (by unfold Func.isWrapper; first | (rw [if_pos (by decide +kernel)]; kernel_rfl) | (rw [if_neg (by decide +kernel)]; exact ⟨rfl, rfl⟩))
    (fun os started H enc _ => fnDueAll_l os started H enc)
#print axioms fnDueAll_holds

end Go.Proofs.Ytpkakpldhlldeaa
