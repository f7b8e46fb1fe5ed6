/- For every code that a policy is drawn from: a valid policy is invalid with a longest wait below the first one, and without tries. No conditions. -/
import Derived.Test.YtmobpfphehmleaaRetryWalks
import Derived.Test.YtmobpfphehmleaaRetryDraw
import Derived.Test.YtmobpfphehmleaaRetryPlain
import Derived.Test.YtmobpfphehmleaaLift
namespace Go.Proofs.Ytmobpfphehmleaa
open Go.ChangeShapes Go.WideShapes Go.ChangeAt Go.RowKit Go.Joins

set_option maxHeartbeats 400000 in
theorem fnPolicyPart_w (A : Option Addr) (n c : Nat) (zs : List Int) (w : World) (h : IsRow .u8 w A n c zs) : Calls Try.prog 4 #[.slice A n c] w fun e w' => e = .returned (.bool true) ∧ Below w.heap.size w w' := by
  obtain ⟨l1, l2⟩ := row_len h
  by_cases hn : 1048576 < n
  · go_enter Try.func4, Try.ntmps4
    go_wp2_with fail
    go_ret
    exact ⟨rfl, Below.refl _ _⟩
  · go_enter Try.func4, Try.ntmps4
    go_wp2_with fail
    refine (drawPolicyValid_c A n c zs _ h).mono ?_
    rintro e w1 ⟨t, f, m, rfl, hbd, hb1⟩
    have hk := Blk.new w1 25 #[.int .i64 t, .int .i64 f, .int .i64 m]
    obtain ⟨x1, x2, x3, x4, x5, x6⟩ := hbd
    cases hv : polB t f m
    · go_wp2_with (first | (go_at_call 17; refine (implPolicyValid_c _ _ _ _).mono ?_; rintro e wx ⟨rfl, hb⟩; (first | have hk := Blk.bel hk hb | have hk := Blk.bel (Blk.dr hk) hb | have hk := Blk.bel (Blk.al hk _) hb | have hk := Blk.bel (Blk.al (Blk.al hk _) _) hb); have c_hk := Blk.cell hk; have f_hk := Blk.frozen hk) | (go_at_call 15; refine (specPolicyValid_c _ _ _ _).mono ?_; rintro e wx ⟨rfl, hb⟩; (first | have hk := Blk.bel hk hb | have hk := Blk.bel (Blk.dr hk) hb | have hk := Blk.bel (Blk.al hk _) hb | have hk := Blk.bel (Blk.al (Blk.al hk _) _) hb); have c_hk := Blk.cell hk; have f_hk := Blk.frozen hk))
      go_ret
      exact ⟨rfl, by (repeat' first | exact bel_refl _ | refine bel_al ?_ _ | refine bel_dr ?_ | refine bel_drN ?_ _ | refine bel_nx ?_ (by assumption) | (refine bel_set ?_ (by first | omega | (simp; omega)) _))⟩
    · have e1 : polB t f (f - 1) = false := by
        cases hq : polB t f (f - 1)
        · rfl
        · have := polB_iff.1 hq; omega
      have e2 : polB 0 f m = false := by
        cases hq : polB 0 f m
        · rfl
        · have := polB_iff.1 hq; omega
      go_wp2_with fail
      refine (implPolicyValid_c _ _ _ _).mono ?_
      rintro e w2 ⟨rfl, hb⟩
      (first | have hk := Blk.bel hk hb | have hk := Blk.bel (Blk.dr hk) hb | have hk := Blk.bel (Blk.al hk _) hb | have hk := Blk.bel (Blk.al (Blk.al hk _) _) hb); have c_hk := Blk.cell hk; have f_hk := Blk.frozen hk
      go_wp2_with fail
      refine (specPolicyValid_c _ _ _ _).mono ?_
      rintro e w3 ⟨rfl, hb3⟩
      (first | have hk := Blk.bel hk hb3 | have hk := Blk.bel (Blk.dr hk) hb3 | have hk := Blk.bel (Blk.al hk _) hb3 | have hk := Blk.bel (Blk.al (Blk.al hk _) _) hb3); have c_hk := Blk.cell hk; have f_hk := Blk.frozen hk
      go_wp2_with fail
      refine (implPolicyValid_c _ _ _ _).mono ?_
      rintro e w4 ⟨rfl, hb4⟩
      have hy := (Blk.new (w3.alloc (.cells #[.int .i64 t, .int .i64 f, .int .i64 (f - 1)] 25)) 25 #[.int .i64 0, .int .i64 f, .int .i64 m]).bel hb4
      have hyc := hy.cell
      simp only [World.size_alloc] at hyc
      go_wp2_with fail
      refine (implPolicyValid_c _ _ _ _).mono ?_
      rintro e w5 ⟨rfl, hb5⟩
      go_wp2_with fail
      go_ret
      exact ⟨rfl, by (repeat' first | exact bel_refl _ | refine bel_al ?_ _ | refine bel_dr ?_ | refine bel_drN ?_ _ | refine bel_nx ?_ (by assumption) | (refine bel_set ?_ (by first | omega | (simp; omega)) _))⟩

set_option maxRecDepth 100000 in
theorem fnPolicyPart_l (os : Os) (started : os.Started) (H : Type) (enc : TypeId × Value → H) :
    ReturnsInHanded {} Try.checked os 4 .any (Rows.fnPolicyPartSpec.pre6 enc Try.prog Try.f4 Rows.fnPolicyPartRow.domain false) (Rows.fnPolicyPartSpec.post enc Try.prog Try.f4 false true false false) := by
  refine returnsInHanded_of_change (C := Try.checked) own started (by kernel_rfl) Try.func4
    (ChangeSpec.witness6 (enc := enc) (C := Try.checked) false ⟨#[], #[.slice none 0 0], []⟩ 8 (by kernel_rfl) (by kernel_rfl) (by kernel_rfl) (by kernel_rfl)) ?_
  intro W base args ds gs before hval0 hW hcnd _
  have hval : ∀ (j : Nat) t v, Try.f4.params[j]? = some t → args[j]? = some v → Value.okWide Try.prog W .any base t v := hval0
  have hW' := hW
  obtain ⟨p, q, hA0, hV, rfl, hfz, hnd⟩ := hW
  have hA : DataW.TrodAll enc Try.prog W 0 (fun _ => true) true Try.f4.params.toList args.toList ds p := hA0
  rw [Try.params4] at hA hval
  obtain ⟨v0, vs0, d0, ds0, p0, q0, hargs, rfl, rfl, h0, r0⟩ := trodAll_cons hA
  obtain ⟨rfl, rfl, rfl⟩ := trodAll_nil r0
  obtain rfl : args = #[v0] := by cases args; simp_all
  obtain ⟨rfl, rfl⟩ := trodVars_none hV
  have k0 := h0
  have lt0 : ∀ x ∈ p0, x.block < W.heap.size := by obtain ⟨m, hm⟩ := k0; exact DataW.trod_lt m _ _ _ hm
  obtain ⟨A0, n0, c0, rfl⟩ := okWide_slice Try.underlying28 (hval 0 28 v0 rfl rfl)
  obtain ⟨z0, w0⟩ := bytes_row h0 (fun _ => rfl)
  clear hA0 hval0
  refine (fnPolicyPart_w A0 n0 c0 z0 W w0).mono fun e W' ⟨he, bel⟩ => ?_
  subst he
  exact ⟨_, rfl, _, _, _, [], _, [], hW', trodAll_mk1 (shut_bool Try.underlying4 _), (trodAll_cons_mk (Below.trod laidOut (by kernel_rfl) (of_decide_eq_true (by kernel_rfl)) k0 bel lt0) trodAll_mk0), rfl, bel.frame _, fun h => by cases h⟩

theorem fnPolicyPart_holds : Rows.FnPolicyPartSaid :=
  OpenClaim.holds_of_wide 4 Try.f4 rfl rfl rfl rfl rfl rfl rfl ⟨rfl, rfl, rfl, rfl, rfl⟩ rfl rfl rfl rfl rfl (by kernel_rfl) Try.func4 (by kernel_rfl)
    (of_decide_eq_true (by kernel_rfl)) (by unfold Func.isWrapper; first | (rw [if_pos (by decide +kernel)]; kernel_rfl) | (rw [if_neg (by decide +kernel)]; exact ⟨rfl, rfl⟩))
    (fun os started H enc _ => fnPolicyPart_l os started H enc)
#print axioms fnPolicyPart_holds

end Go.Proofs.Ytmobpfphehmleaa
