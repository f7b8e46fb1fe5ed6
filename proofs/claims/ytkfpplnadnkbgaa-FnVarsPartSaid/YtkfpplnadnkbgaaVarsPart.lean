/- For every code that values are drawn from: valid values are invalid without the last one, and with one of 100. No conditions. -/
import Derived.Test.YtkfpplnadnkbgaaVarsDraw
import Derived.Test.YtkfpplnadnkbgaaVars
import Derived.Test.YtkfpplnadnkbgaaAppend
import Derived.Test.YtkfpplnadnkbgaaLift
namespace Go.Proofs.Ytkfpplnadnkbgaa
open Go.ChangeShapes Go.WideShapes Go.ChangeAt Go.RowKit Go.Joins

set_option maxHeartbeats 400000 in
theorem fnVarsPart_w (A A' : Option Addr) (n c n' c' : Nat) (zs zs' : List Int) (w : World) (h : IsRow .u8 w A n c zs) (h' : IsRow .u8 w A' n' c' zs') : Calls Try.prog 4 #[.slice A n c, .slice A' n' c'] w fun e w' => e = .returned (.bool true) ∧ Below w.heap.size w w' := by
  obtain ⟨l1, l2⟩ := row_len h
  obtain ⟨l3, l4⟩ := row_len h'
  by_cases hn : 1048576 < n ∨ 1048576 < n'
  · by_cases hn1 : 1048576 < n
    all_goals
      go_enter Try.func4, Try.ntmps4
      go_wp2_with fail
      go_ret
      exact ⟨rfl, Below.refl _ _⟩
  · have g1 : (n : Int) ≤ 1048576 := by omega
    have g2 : (n' : Int) ≤ 1048576 := by omega
    clear hn
    go_enter Try.func4, Try.ntmps4
    go_wp2_with fail
    refine (drawVarsValid_c A n c zs _ h).mono ?_
    rintro e w1 ⟨B, m, d, l, rfl, hs, hm, hb1⟩
    have hcap := hs.cap
    have hmax := hs.max
    go_wp2_with fail
    refine (implVarsValid_c _ _ _ l _ hs).mono ?_
    rintro e w1 ⟨rfl, rfl⟩
    go_wp2_with fail
    refine (specVarsValid_c _ _ _ l _ hs).mono ?_
    rintro e w1 ⟨rfl, rfl⟩
    cases hv : varsB l
    · go_wp2_with fail
      go_ret
      exact ⟨rfl, by (repeat' first | exact bel_refl _ | refine bel_al ?_ _ | refine bel_dr ?_ | refine bel_drN ?_ _ | refine bel_nx ?_ (by assumption) | (refine bel_set ?_ (by first | omega | (simp; omega)) _))⟩
    · obtain ⟨i0, hi0, hz0, hz1, hz2⟩ := info_parts int_info
      have hv4 := varsB_iff.1 hv
      obtain rfl : m = 4 := by rw [← hs.len]; exact hv4.1
      obtain ⟨b, off, rfl, _⟩ := hs.at_ (by omega)
      have HV := Lib.hid hv4
      clear hv4
      go_wp2_with (at_builtin; refine wpList_append_sl (enc := encI) rfl _ _ 22 rfl w1.heap.size 3 i0 (.int .i64 0) 1 8 Try.underlying22 hi0 hz0 hz1 hz2 rfl (by decide) _ 0 [] rfl (World.ownsRow_lit w1 #[] 0 (Nat.le_refl _) (by unfold maxLen; omega) rfl) (some ⟨b, off, none⟩) 4 d l rfl (fun _ => rfl) (hs.al _) (fun a u hu => by simp [encI] at hu; subst hu; rfl) (by unfold maxLen; omega) (by omega) (by simp) ?_; intro v' w2 hown hgrow hloc; obtain ⟨g, cap, rfl, hg1, hg2⟩ := hown.form (by omega); obtain ⟨⟨v0, hco⟩, hcf⟩ := own_at hown (j := n' % 4) (by omega))
      have hbw : Below w1.heap.size w1 w2 := ((Below.refl _ _).alloc (Nat.le_refl _) _).grown hgrow (by simp) (fun k hk => by cases hk; exact Nat.le_refl _)
      have hb2 : Below w1.heap.size w1 (w2.setCell ⟨g, n' % 4, none⟩ (.int .i64 100)) := hbw.setCell hg1 _
      have hst := (hown.stored (n' % 4) (.int .i64 100)).1
      rw [List.nil_append, flat_encI, map_set] at hst
      have hv4 := HV.out
      refine (implVarsValid_c _ _ _ (l.take 3) _ ((hs.bel hb2).take (by omega))).mono ?_
      rintro e w3 ⟨rfl, rfl⟩
      have e1 : varsB (l.take 3) = false := by
        cases hq : varsB (l.take 3)
        · rfl
        · have := (varsB_iff.1 hq).1; simp at this; omega
      have e2 : varsB (l.set (n' % 4) 100) = false := varsB_no (k := n' % 4) (z := 100) (by rw [List.getElem?_set, if_pos rfl, if_pos (by omega)]) (by omega)
      clear hv4
      go_wp2_with fail
      refine (implVarsValid_c _ _ _ (l.set (n' % 4) 100) _ (SlI.of_own hst)).mono ?_
      rintro e w3 ⟨rfl, rfl⟩
      go_wp2_with fail
      go_ret
      exact ⟨rfl, bel_nx hb1 hb2⟩

set_option maxRecDepth 100000 in
theorem fnVarsPart_l (os : Os) (started : os.Started) (H : Type) (enc : TypeId × Value → H) :
    ReturnsInHanded {} Try.checked os 4 .any (Rows.fnVarsPartSpec.pre6 enc Try.prog Try.f4 Rows.fnVarsPartRow.domain false) (Rows.fnVarsPartSpec.post enc Try.prog Try.f4 false true false false) := by
  refine returnsInHanded_of_change (C := Try.checked) own started (by kernel_rfl) Try.func4
    (ChangeSpec.witness6 (enc := enc) (C := Try.checked) false ⟨#[], #[.slice none 0 0, .slice none 0 0], []⟩ 8 (by kernel_rfl) (by kernel_rfl) (by kernel_rfl) (by kernel_rfl)) ?_
  intro W base args ds gs before hval0 hW hcnd _
  have hval : ∀ (j : Nat) t v, Try.f4.params[j]? = some t → args[j]? = some v → Value.okWide Try.prog W .any base t v := hval0
  have hW' := hW
  obtain ⟨p, q, hA0, hV, rfl, hfz, hnd⟩ := hW
  have hA : DataW.TrodAll enc Try.prog W 0 (fun _ => true) true Try.f4.params.toList args.toList ds p := hA0
  rw [Try.params4] at hA hval
  obtain ⟨v0, vs0, d0, ds0, p0, q0, hargs, rfl, rfl, h0, r0⟩ := trodAll_cons hA
  obtain ⟨v1, vs1, d1, ds1, p1, q1, rfl, rfl, rfl, h1, r1⟩ := trodAll_cons r0
  obtain ⟨rfl, rfl, rfl⟩ := trodAll_nil r1
  obtain rfl : args = #[v0, v1] := by cases args; simp_all
  obtain ⟨rfl, rfl⟩ := trodVars_none hV
  have k0 := h0
  have lt0 : ∀ x ∈ p0, x.block < W.heap.size := by obtain ⟨m, hm⟩ := k0; exact DataW.trod_lt m _ _ _ hm
  obtain ⟨A0, n0, c0, rfl⟩ := okWide_slice Try.underlying26 (hval 0 26 v0 rfl rfl)
  obtain ⟨z0, w0⟩ := bytes_row h0 (fun _ => rfl)
  have k1 := h1
  have lt1 : ∀ x ∈ p1, x.block < W.heap.size := by obtain ⟨m, hm⟩ := k1; exact DataW.trod_lt m _ _ _ hm
  obtain ⟨A1, n1, c1, rfl⟩ := okWide_slice Try.underlying26 (hval 1 26 v1 rfl rfl)
  obtain ⟨z1, w1⟩ := bytes_row h1 (fun _ => rfl)
  clear hA0 hval0
  refine (fnVarsPart_w A0 A1 n0 c0 n1 c1 z0 z1 W w0 w1).mono fun e W' ⟨he, bel⟩ => ?_
  subst he
  exact ⟨_, rfl, _, _, _, [], _, [], hW', trodAll_mk1 (shut_bool Try.underlying4 _), (trodAll_cons_mk (Below.trod laidOut (by kernel_rfl) (of_decide_eq_true (by kernel_rfl)) k0 bel lt0) (trodAll_cons_mk (Below.trod laidOut (by kernel_rfl) (of_decide_eq_true (by kernel_rfl)) k1 bel lt1) trodAll_mk0)), rfl, bel.frame _, fun h => by cases h⟩

theorem fnVarsPart_holds : Rows.FnVarsPartSaid :=
  OpenClaim.holds_of_wide 4 Try.f4 rfl rfl rfl rfl rfl rfl rfl ⟨rfl, rfl, rfl, rfl, rfl⟩ rfl rfl rfl rfl rfl (by kernel_rfl) Try.func4 (by kernel_rfl)
    (of_decide_eq_true (by kernel_rfl)) (by unfold Func.isWrapper; first | (rw [if_pos (by decide +kernel)]; kernel_rfl) | (rw [if_neg (by decide +kernel)]; exact ⟨rfl, rfl⟩))
    (fun os started H enc _ => fnVarsPart_l os started H enc)
#print axioms fnVarsPart_holds

end Go.Proofs.Ytkfpplnadnkbgaa
