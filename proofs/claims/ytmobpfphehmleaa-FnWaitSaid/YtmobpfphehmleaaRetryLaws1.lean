/- For every code that a policy is drawn from: waits do not become shorter; the first wait is the first one. No conditions. -/
import Derived.Test.YtmobpfphehmleaaRetryWalks
import Derived.Test.YtmobpfphehmleaaRetryDraw2
import Derived.Test.YtmobpfphehmleaaRetryPlain2
import Derived.Test.YtmobpfphehmleaaLift
namespace Go.Proofs.Ytmobpfphehmleaa
open Go.ChangeShapes Go.WideShapes Go.ChangeAt Go.RowKit Go.Joins

set_option maxHeartbeats 400000 in
theorem fnWait_w (A : Option Addr) (n c : Nat) (zs : List Int) (w : World) (h : IsRow .u8 w A n c zs) : Calls Try.prog 8 #[.slice A n c] w fun e w' => e = .returned (.bool true) ∧ Below w.heap.size w w' := by
  obtain ⟨l1, l2⟩ := row_len h
  by_cases hn : 1048576 < n
  · go_enter Try.func8, Try.ntmps8
    go_wp2_with fail
    go_ret
    exact ⟨rfl, Below.refl _ _⟩
  · go_enter Try.func8, Try.ntmps8
    go_wp2_with fail
    refine (drawRetryWait_c A n c zs _ h).mono ?_
    rintro e w1 ⟨t, f, m, x, rfl, hbd, ⟨x1, x2⟩, hb1⟩
    have hk := Blk.new w1 25 #[.int .i64 t, .int .i64 f, .int .i64 m]
    have hw := wait_facts t f m x
    by_cases hv : waitF t f m x < 0
    · clear hw
      go_wp2_with (first | (go_at_call 20; refine (implRetryWait_c _ _ _ _ _).mono ?_; rintro e wx ⟨rfl, hb⟩; (first | have hk := Blk.bel hk hb | have hk := Blk.bel (Blk.dr hk) hb | have hk := Blk.bel (Blk.al hk _) hb | have hk := Blk.bel (Blk.al (Blk.al hk _) _) hb); have c_hk := Blk.cell hk; have f_hk := Blk.frozen hk) | (go_at_call 19; refine (specRetryWait_c _ _ _ _ _).mono ?_; rintro e wx ⟨rfl, hb⟩; (first | have hk := Blk.bel hk hb | have hk := Blk.bel (Blk.dr hk) hb | have hk := Blk.bel (Blk.al hk _) hb | have hk := Blk.bel (Blk.al (Blk.al hk _) _) hb); have c_hk := Blk.cell hk; have f_hk := Blk.frozen hk))
      go_ret
      exact ⟨rfl, by (repeat' first | exact bel_refl _ | refine bel_al ?_ _ | refine bel_dr ?_ | refine bel_drN ?_ _ | refine bel_nx ?_ (by assumption) | (refine bel_set ?_ (by first | omega | (simp; omega)) _))⟩
    · obtain ⟨y1, y2, y3, y4, y5, y6, y7, y8⟩ := hw hv
      clear hw
      rcases y8 with y8 | ⟨y8, y9⟩
      · have hN : (waitF t f m (x + 1) == -1) = true := by simp [y8]
        clear y8
        go_wp2_with (first | (go_at_call 20; refine (implRetryWait_c _ _ _ _ _).mono ?_; rintro e wx ⟨rfl, hb⟩; (first | have hk := Blk.bel hk hb | have hk := Blk.bel (Blk.dr hk) hb | have hk := Blk.bel (Blk.al hk _) hb | have hk := Blk.bel (Blk.al (Blk.al hk _) _) hb); have c_hk := Blk.cell hk; have f_hk := Blk.frozen hk) | (go_at_call 19; refine (specRetryWait_c _ _ _ _ _).mono ?_; rintro e wx ⟨rfl, hb⟩; (first | have hk := Blk.bel hk hb | have hk := Blk.bel (Blk.dr hk) hb | have hk := Blk.bel (Blk.al hk _) hb | have hk := Blk.bel (Blk.al (Blk.al hk _) _) hb); have c_hk := Blk.cell hk; have f_hk := Blk.frozen hk))
        go_ret
        exact ⟨rfl, by (repeat' first | exact bel_refl _ | refine bel_al ?_ _ | refine bel_dr ?_ | refine bel_drN ?_ _ | refine bel_nx ?_ (by assumption) | (refine bel_set ?_ (by first | omega | (simp; omega)) _))⟩
      · have hN : (waitF t f m (x + 1) == -1) = false := by simp; omega
        go_wp2_with (first | (go_at_call 20; refine (implRetryWait_c _ _ _ _ _).mono ?_; rintro e wx ⟨rfl, hb⟩; (first | have hk := Blk.bel hk hb | have hk := Blk.bel (Blk.dr hk) hb | have hk := Blk.bel (Blk.al hk _) hb | have hk := Blk.bel (Blk.al (Blk.al hk _) _) hb); have c_hk := Blk.cell hk; have f_hk := Blk.frozen hk) | (go_at_call 19; refine (specRetryWait_c _ _ _ _ _).mono ?_; rintro e wx ⟨rfl, hb⟩; (first | have hk := Blk.bel hk hb | have hk := Blk.bel (Blk.dr hk) hb | have hk := Blk.bel (Blk.al hk _) hb | have hk := Blk.bel (Blk.al (Blk.al hk _) _) hb); have c_hk := Blk.cell hk; have f_hk := Blk.frozen hk))
        go_ret
        exact ⟨rfl, by (repeat' first | exact bel_refl _ | refine bel_al ?_ _ | refine bel_dr ?_ | refine bel_drN ?_ _ | refine bel_nx ?_ (by assumption) | (refine bel_set ?_ (by first | omega | (simp; omega)) _))⟩

set_option maxRecDepth 100000 in
theorem fnWait_l (os : Os) (started : os.Started) (H : Type) (enc : TypeId × Value → H) :
    ReturnsInHanded {} Try.checked os 8 .any (Rows.fnWaitSpec.pre6 enc Try.prog Try.f8 Rows.fnWaitRow.domain false) (Rows.fnWaitSpec.post enc Try.prog Try.f8 false true false false) := by
  refine returnsInHanded_of_change (C := Try.checked) own started (by kernel_rfl) Try.func8
    (ChangeSpec.witness6 (enc := enc) (C := Try.checked) false ⟨#[], #[.slice none 0 0], []⟩ 8 (by kernel_rfl) (by kernel_rfl) (by kernel_rfl) (by kernel_rfl)) ?_
  intro W base args ds gs before hval0 hW hcnd _
  have hval : ∀ (j : Nat) t v, Try.f8.params[j]? = some t → args[j]? = some v → Value.okWide Try.prog W .any base t v := hval0
  have hW' := hW
  obtain ⟨p, q, hA0, hV, rfl, hfz, hnd⟩ := hW
  have hA : DataW.TrodAll enc Try.prog W 0 (fun _ => true) true Try.f8.params.toList args.toList ds p := hA0
  rw [Try.params8] at hA hval
  obtain ⟨v0, vs0, d0, ds0, p0, q0, hargs, rfl, rfl, h0, r0⟩ := trodAll_cons hA
  obtain ⟨rfl, rfl, rfl⟩ := trodAll_nil r0
  obtain rfl : args = #[v0] := by cases args; simp_all
  obtain ⟨rfl, rfl⟩ := trodVars_none hV
  have k0 := h0
  have lt0 : ∀ x ∈ p0, x.block < W.heap.size := by obtain ⟨m, hm⟩ := k0; exact DataW.trod_lt m _ _ _ hm
  obtain ⟨A0, n0, c0, rfl⟩ := okWide_slice Try.underlying28 (hval 0 28 v0 rfl rfl)
  obtain ⟨z0, w0⟩ := bytes_row h0 (fun _ => rfl)
  clear hA0 hval0
  refine (fnWait_w A0 n0 c0 z0 W w0).mono fun e W' ⟨he, bel⟩ => ?_
  subst he
  exact ⟨_, rfl, _, _, _, [], _, [], hW', trodAll_mk1 (shut_bool Try.underlying4 _), (trodAll_cons_mk (Below.trod laidOut (by kernel_rfl) (of_decide_eq_true (by kernel_rfl)) k0 bel lt0) trodAll_mk0), rfl, bel.frame _, fun h => by cases h⟩

theorem fnWait_holds : Rows.FnWaitSaid :=
  OpenClaim.holds_of_wide 8 Try.f8 rfl rfl rfl rfl rfl rfl rfl ⟨rfl, rfl, rfl, rfl, rfl⟩ rfl rfl rfl rfl rfl (by kernel_rfl) Try.func8 (by kernel_rfl)
    (of_decide_eq_true (by kernel_rfl)) (by unfold Func.isWrapper; first | (rw [if_pos (by decide +kernel)]; kernel_rfl) | (rw [if_neg (by decide +kernel)]; exact ⟨rfl, rfl⟩))
    (fun os started H enc _ => fnWait_l os started H enc)
#print axioms fnWait_holds

set_option maxHeartbeats 400000 in
theorem fnWaitFirst_w (A : Option Addr) (n c : Nat) (zs : List Int) (w : World) (h : IsRow .u8 w A n c zs) : Calls Try.prog 9 #[.slice A n c] w fun e w' => e = .returned (.bool true) ∧ Below w.heap.size w w' := by
  obtain ⟨l1, l2⟩ := row_len h
  by_cases hn : 1048576 < n
  · go_enter Try.func9, Try.ntmps9
    go_wp2_with fail
    go_ret
    exact ⟨rfl, Below.refl _ _⟩
  · go_enter Try.func9, Try.ntmps9
    go_wp2_with fail
    refine (drawRetryWait_c A n c zs _ h).mono ?_
    rintro e w1 ⟨t, f, m, x, rfl, hbd, ⟨x1, x2⟩, hb1⟩
    have hk := Blk.new w1 25 #[.int .i64 t, .int .i64 f, .int .i64 m]
    have hw := wait_first t f m x
    by_cases hv : waitF t f m x < 0
    · clear hw
      go_wp2_with (first | (go_at_call 20; refine (implRetryWait_c _ _ _ _ _).mono ?_; rintro e wx ⟨rfl, hb⟩; (first | have hk := Blk.bel hk hb | have hk := Blk.bel (Blk.dr hk) hb | have hk := Blk.bel (Blk.al hk _) hb | have hk := Blk.bel (Blk.al (Blk.al hk _) _) hb); have c_hk := Blk.cell hk; have f_hk := Blk.frozen hk) | (go_at_call 19; refine (specRetryWait_c _ _ _ _ _).mono ?_; rintro e wx ⟨rfl, hb⟩; (first | have hk := Blk.bel hk hb | have hk := Blk.bel (Blk.dr hk) hb | have hk := Blk.bel (Blk.al hk _) hb | have hk := Blk.bel (Blk.al (Blk.al hk _) _) hb); have c_hk := Blk.cell hk; have f_hk := Blk.frozen hk))
      go_ret
      exact ⟨rfl, by (repeat' first | exact bel_refl _ | refine bel_al ?_ _ | refine bel_dr ?_ | refine bel_drN ?_ _ | refine bel_nx ?_ (by assumption) | (refine bel_set ?_ (by first | omega | (simp; omega)) _))⟩
    · obtain ⟨y1, y2⟩ := hw hv
      clear hw
      have e1 : (waitF t f m 1 == f) = true := by simp [y1]
      have e2 : (waitF t f m t == -1) = true := by simp [y2]
      clear y1 y2
      go_wp2_with (first | (go_at_call 20; refine (implRetryWait_c _ _ _ _ _).mono ?_; rintro e wx ⟨rfl, hb⟩; (first | have hk := Blk.bel hk hb | have hk := Blk.bel (Blk.dr hk) hb | have hk := Blk.bel (Blk.al hk _) hb | have hk := Blk.bel (Blk.al (Blk.al hk _) _) hb); have c_hk := Blk.cell hk; have f_hk := Blk.frozen hk) | (go_at_call 19; refine (specRetryWait_c _ _ _ _ _).mono ?_; rintro e wx ⟨rfl, hb⟩; (first | have hk := Blk.bel hk hb | have hk := Blk.bel (Blk.dr hk) hb | have hk := Blk.bel (Blk.al hk _) hb | have hk := Blk.bel (Blk.al (Blk.al hk _) _) hb); have c_hk := Blk.cell hk; have f_hk := Blk.frozen hk))
      go_region_held3 (fun w' => w'.cell? ⟨w1.heap.size, 0, none⟩ = some (.int .i64 t) ∧ w'.cell? ⟨w1.heap.size, 1, none⟩ = some (.int .i64 f) ∧ w'.cell? ⟨w1.heap.size, 2, none⟩ = some (.int .i64 m)) (first | go_keep | exact ⟨c_hk 0, c_hk 1, c_hk 2⟩) (((go_at_call 20; refine (implRetryWait_c _ _ _ _ _).mono ?_; rintro e wx ⟨rfl, hb⟩; (first | have hk := Blk.bel hk hb | have hk := Blk.bel (Blk.dr hk) hb | have hk := Blk.bel (Blk.al hk _) hb | have hk := Blk.bel (Blk.al (Blk.al hk _) _) hb); have c_hk := Blk.cell hk; have f_hk := Blk.frozen hk)))
      go_wp2
      go_ret
      exact ⟨rfl, by (repeat' first | exact bel_refl _ | refine bel_al ?_ _ | refine bel_dr ?_ | refine bel_drN ?_ _ | refine bel_nx ?_ (by assumption) | (refine bel_set ?_ (by first | omega | (simp; omega)) _))⟩

set_option maxRecDepth 100000 in
theorem fnWaitFirst_l (os : Os) (started : os.Started) (H : Type) (enc : TypeId × Value → H) :
    ReturnsInHanded {} Try.checked os 9 .any (Rows.fnWaitFirstSpec.pre6 enc Try.prog Try.f9 Rows.fnWaitFirstRow.domain false) (Rows.fnWaitFirstSpec.post enc Try.prog Try.f9 false true false false) := by
  refine returnsInHanded_of_change (C := Try.checked) own started (by kernel_rfl) Try.func9
    (ChangeSpec.witness6 (enc := enc) (C := Try.checked) false ⟨#[], #[.slice none 0 0], []⟩ 8 (by kernel_rfl) (by kernel_rfl) (by kernel_rfl) (by kernel_rfl)) ?_
  intro W base args ds gs before hval0 hW hcnd _
  have hval : ∀ (j : Nat) t v, Try.f9.params[j]? = some t → args[j]? = some v → Value.okWide Try.prog W .any base t v := hval0
  have hW' := hW
  obtain ⟨p, q, hA0, hV, rfl, hfz, hnd⟩ := hW
  have hA : DataW.TrodAll enc Try.prog W 0 (fun _ => true) true Try.f9.params.toList args.toList ds p := hA0
  rw [Try.params9] at hA hval
  obtain ⟨v0, vs0, d0, ds0, p0, q0, hargs, rfl, rfl, h0, r0⟩ := trodAll_cons hA
  obtain ⟨rfl, rfl, rfl⟩ := trodAll_nil r0
  obtain rfl : args = #[v0] := by cases args; simp_all
  obtain ⟨rfl, rfl⟩ := trodVars_none hV
  have k0 := h0
  have lt0 : ∀ x ∈ p0, x.block < W.heap.size := by obtain ⟨m, hm⟩ := k0; exact DataW.trod_lt m _ _ _ hm
  obtain ⟨A0, n0, c0, rfl⟩ := okWide_slice Try.underlying28 (hval 0 28 v0 rfl rfl)
  obtain ⟨z0, w0⟩ := bytes_row h0 (fun _ => rfl)
  clear hA0 hval0
  refine (fnWaitFirst_w A0 n0 c0 z0 W w0).mono fun e W' ⟨he, bel⟩ => ?_
  subst he
  exact ⟨_, rfl, _, _, _, [], _, [], hW', trodAll_mk1 (shut_bool Try.underlying4 _), (trodAll_cons_mk (Below.trod laidOut (by kernel_rfl) (of_decide_eq_true (by kernel_rfl)) k0 bel lt0) trodAll_mk0), rfl, bel.frame _, fun h => by cases h⟩

theorem fnWaitFirst_holds : Rows.FnWaitFirstSaid :=
  OpenClaim.holds_of_wide 9 Try.f9 rfl rfl rfl rfl rfl rfl rfl ⟨rfl, rfl, rfl, rfl, rfl⟩ rfl rfl rfl rfl rfl (by kernel_rfl) Try.func9 (by kernel_rfl)
    (of_decide_eq_true (by kernel_rfl)) (by unfold Func.isWrapper; first | (rw [if_pos (by decide +kernel)]; kernel_rfl) | (rw [if_neg (by decide +kernel)]; exact ⟨rfl, rfl⟩))
    (fun os started H enc _ => fnWaitFirst_l os started H enc)
#print axioms fnWaitFirst_holds

end Go.Proofs.Ytmobpfphehmleaa
