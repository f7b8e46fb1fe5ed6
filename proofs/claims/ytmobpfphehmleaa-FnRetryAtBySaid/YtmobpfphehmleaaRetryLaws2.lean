/- For every code that a policy is drawn from: the first try begins at once; a try begins behind the wait of the one ahead; at its time a try has begun. No conditions. -/
import Derived.Test.YtmobpfphehmleaaRetryWalks
import Derived.Test.YtmobpfphehmleaaRetryDraw2
import Derived.Test.YtmobpfphehmleaaRetryPlain2
import Derived.Test.YtmobpfphehmleaaLift
namespace Go.Proofs.Ytmobpfphehmleaa
open Go.ChangeShapes Go.WideShapes Go.ChangeAt Go.RowKit Go.Joins

set_option maxHeartbeats 400000 in
theorem fnRetryFirst_w (A : Option Addr) (n c : Nat) (zs : List Int) (w : World) (h : IsRow .u8 w A n c zs) : Calls Try.prog 10 #[.slice A n c] w fun e w' => e = .returned (.bool true) ∧ Below w.heap.size w w' := by
  obtain ⟨l1, l2⟩ := row_len h
  by_cases hn : 1048576 < n
  · go_enter Try.func10, Try.ntmps10
    go_wp2_with fail
    go_ret
    exact ⟨rfl, Below.refl _ _⟩
  · go_enter Try.func10, Try.ntmps10
    go_wp2_with fail
    refine (drawRetryAt_c A n c zs _ h).mono ?_
    rintro e w1 ⟨t, f, m, x, rfl, hbd, ⟨x1, x2⟩, hb1⟩
    have hk := Blk.new w1 25 #[.int .i64 t, .int .i64 f, .int .i64 m]
    have hw := at_facts t f m x
    by_cases hv : atF t f m x < 0
    · clear hw
      go_wp2_with (first | (go_at_call 22; refine (implRetryAt_c _ _ _ _ _).mono ?_; rintro e wx ⟨rfl, hb⟩; (first | have hk := Blk.bel hk hb | have hk := Blk.bel (Blk.dr hk) hb | have hk := Blk.bel (Blk.al hk _) hb | have hk := Blk.bel (Blk.al (Blk.al hk _) _) hb); have c_hk := Blk.cell hk; have f_hk := Blk.frozen hk) | (go_at_call 21; refine (specRetryAt_c _ _ _ _ _).mono ?_; rintro e wx ⟨rfl, hb⟩; (first | have hk := Blk.bel hk hb | have hk := Blk.bel (Blk.dr hk) hb | have hk := Blk.bel (Blk.al hk _) hb | have hk := Blk.bel (Blk.al (Blk.al hk _) _) hb); have c_hk := Blk.cell hk; have f_hk := Blk.frozen hk))
      go_ret
      exact ⟨rfl, by (repeat' first | exact bel_refl _ | refine bel_al ?_ _ | refine bel_dr ?_ | refine bel_drN ?_ _ | refine bel_nx ?_ (by assumption) | (refine bel_set ?_ (by first | omega | (simp; omega)) _))⟩
    · obtain ⟨y1, y2, y3, y4, y5, y6, y7, y8, y9⟩ := hw hv
      clear hw y8 y9
      have e1 : (atF t f m 1 == 0) = true := by simp [y4]
      clear y4
      by_cases hx : x = 1
      · have e2 : (atF t f m x == 0) = true := by simp [y5 hx]
        have e3 : (x == 1) = true := by simp [hx]
        clear y5 y6 hx
        go_wp2_with (first | (go_at_call 22; refine (implRetryAt_c _ _ _ _ _).mono ?_; rintro e wx ⟨rfl, hb⟩; (first | have hk := Blk.bel hk hb | have hk := Blk.bel (Blk.dr hk) hb | have hk := Blk.bel (Blk.al hk _) hb | have hk := Blk.bel (Blk.al (Blk.al hk _) _) hb); have c_hk := Blk.cell hk; have f_hk := Blk.frozen hk) | (go_at_call 21; refine (specRetryAt_c _ _ _ _ _).mono ?_; rintro e wx ⟨rfl, hb⟩; (first | have hk := Blk.bel hk hb | have hk := Blk.bel (Blk.dr hk) hb | have hk := Blk.bel (Blk.al hk _) hb | have hk := Blk.bel (Blk.al (Blk.al hk _) _) hb); have c_hk := Blk.cell hk; have f_hk := Blk.frozen hk))
        go_ret
        exact ⟨rfl, by (repeat' first | exact bel_refl _ | refine bel_al ?_ _ | refine bel_dr ?_ | refine bel_drN ?_ _ | refine bel_nx ?_ (by assumption) | (refine bel_set ?_ (by first | omega | (simp; omega)) _))⟩
      · have y6 := y6 hx
        have e2 : (atF t f m x == 0) = false := by simp; omega
        have e3 : (x == 1) = false := by simpa using hx
        clear y5 hx
        go_wp2_with (first | (go_at_call 22; refine (implRetryAt_c _ _ _ _ _).mono ?_; rintro e wx ⟨rfl, hb⟩; (first | have hk := Blk.bel hk hb | have hk := Blk.bel (Blk.dr hk) hb | have hk := Blk.bel (Blk.al hk _) hb | have hk := Blk.bel (Blk.al (Blk.al hk _) _) hb); have c_hk := Blk.cell hk; have f_hk := Blk.frozen hk) | (go_at_call 21; refine (specRetryAt_c _ _ _ _ _).mono ?_; rintro e wx ⟨rfl, hb⟩; (first | have hk := Blk.bel hk hb | have hk := Blk.bel (Blk.dr hk) hb | have hk := Blk.bel (Blk.al hk _) hb | have hk := Blk.bel (Blk.al (Blk.al hk _) _) hb); have c_hk := Blk.cell hk; have f_hk := Blk.frozen hk))
        go_ret
        exact ⟨rfl, by (repeat' first | exact bel_refl _ | refine bel_al ?_ _ | refine bel_dr ?_ | refine bel_drN ?_ _ | refine bel_nx ?_ (by assumption) | (refine bel_set ?_ (by first | omega | (simp; omega)) _))⟩

set_option maxRecDepth 100000 in
theorem fnRetryFirst_l (os : Os) (started : os.Started) (H : Type) (enc : TypeId × Value → H) :
    ReturnsInHanded {} Try.checked os 10 .any (Rows.fnRetryFirstSpec.pre6 enc Try.prog Try.f10 Rows.fnRetryFirstRow.domain false) (Rows.fnRetryFirstSpec.post enc Try.prog Try.f10 false true false false) := by
  refine returnsInHanded_of_change (C := Try.checked) own started (by kernel_rfl) Try.func10
    (ChangeSpec.witness6 (enc := enc) (C := Try.checked) false ⟨#[], #[.slice none 0 0], []⟩ 8 (by kernel_rfl) (by kernel_rfl) (by kernel_rfl) (by kernel_rfl)) ?_
  intro W base args ds gs before hval0 hW hcnd _
  have hval : ∀ (j : Nat) t v, Try.f10.params[j]? = some t → args[j]? = some v → Value.okWide Try.prog W .any base t v := hval0
  have hW' := hW
  obtain ⟨p, q, hA0, hV, rfl, hfz, hnd⟩ := hW
  have hA : DataW.TrodAll enc Try.prog W 0 (fun _ => true) true Try.f10.params.toList args.toList ds p := hA0
  rw [Try.params10] at hA hval
  obtain ⟨v0, vs0, d0, ds0, p0, q0, hargs, rfl, rfl, h0, r0⟩ := trodAll_cons hA
  obtain ⟨rfl, rfl, rfl⟩ := trodAll_nil r0
  obtain rfl : args = #[v0] := by cases args; simp_all
  obtain ⟨rfl, rfl⟩ := trodVars_none hV
  have k0 := h0
  have lt0 : ∀ x ∈ p0, x.block < W.heap.size := by obtain ⟨m, hm⟩ := k0; exact DataW.trod_lt m _ _ _ hm
  obtain ⟨A0, n0, c0, rfl⟩ := okWide_slice Try.underlying28 (hval 0 28 v0 rfl rfl)
  obtain ⟨z0, w0⟩ := bytes_row h0 (fun _ => rfl)
  clear hA0 hval0
  refine (fnRetryFirst_w A0 n0 c0 z0 W w0).mono fun e W' ⟨he, bel⟩ => ?_
  subst he
  exact ⟨_, rfl, _, _, _, [], _, [], hW', trodAll_mk1 (shut_bool Try.underlying4 _), (trodAll_cons_mk (Below.trod laidOut (by kernel_rfl) (of_decide_eq_true (by kernel_rfl)) k0 bel lt0) trodAll_mk0), rfl, bel.frame _, fun h => by cases h⟩

theorem fnRetryFirst_holds : Rows.FnRetryFirstSaid :=
  OpenClaim.holds_of_wide 10 Try.f10 rfl rfl rfl rfl rfl rfl rfl ⟨rfl, rfl, rfl, rfl, rfl⟩ rfl rfl rfl rfl rfl (by kernel_rfl) Try.func10 (by kernel_rfl)
    (of_decide_eq_true (by kernel_rfl)) (by unfold Func.isWrapper; first | (rw [if_pos (by decide +kernel)]; kernel_rfl) | (rw [if_neg (by decide +kernel)]; exact ⟨rfl, rfl⟩))
    (fun os started H enc _ => fnRetryFirst_l os started H enc)
#print axioms fnRetryFirst_holds

set_option maxHeartbeats 400000 in
theorem fnRetryAt_w (A : Option Addr) (n c : Nat) (zs : List Int) (w : World) (h : IsRow .u8 w A n c zs) : Calls Try.prog 11 #[.slice A n c] w fun e w' => e = .returned (.bool true) ∧ Below w.heap.size w w' := by
  obtain ⟨l1, l2⟩ := row_len h
  by_cases hn : 1048576 < n
  · go_enter Try.func11, Try.ntmps11
    go_wp2_with fail
    go_ret
    exact ⟨rfl, Below.refl _ _⟩
  · go_enter Try.func11, Try.ntmps11
    go_wp2_with fail
    refine (drawRetryAt_c A n c zs _ h).mono ?_
    rintro e w1 ⟨t, f, m, x, rfl, hbd, ⟨x1, x2⟩, hb1⟩
    have hk := Blk.new w1 25 #[.int .i64 t, .int .i64 f, .int .i64 m]
    have hw := at_facts t f m x
    by_cases hv : atF t f m x < 0
    · clear hw
      go_wp2_with (first | (go_at_call 22; refine (implRetryAt_c _ _ _ _ _).mono ?_; rintro e wx ⟨rfl, hb⟩; (first | have hk := Blk.bel hk hb | have hk := Blk.bel (Blk.dr hk) hb | have hk := Blk.bel (Blk.al hk _) hb | have hk := Blk.bel (Blk.al (Blk.al hk _) _) hb); have c_hk := Blk.cell hk; have f_hk := Blk.frozen hk) | (go_at_call 21; refine (specRetryAt_c _ _ _ _ _).mono ?_; rintro e wx ⟨rfl, hb⟩; (first | have hk := Blk.bel hk hb | have hk := Blk.bel (Blk.dr hk) hb | have hk := Blk.bel (Blk.al hk _) hb | have hk := Blk.bel (Blk.al (Blk.al hk _) _) hb); have c_hk := Blk.cell hk; have f_hk := Blk.frozen hk) | (go_at_call 20; refine (implRetryWait_c _ _ _ _ _).mono ?_; rintro e wx ⟨rfl, hb⟩; (first | have hk := Blk.bel hk hb | have hk := Blk.bel (Blk.dr hk) hb | have hk := Blk.bel (Blk.al hk _) hb | have hk := Blk.bel (Blk.al (Blk.al hk _) _) hb); have c_hk := Blk.cell hk; have f_hk := Blk.frozen hk) | (go_at_call 19; refine (specRetryWait_c _ _ _ _ _).mono ?_; rintro e wx ⟨rfl, hb⟩; (first | have hk := Blk.bel hk hb | have hk := Blk.bel (Blk.dr hk) hb | have hk := Blk.bel (Blk.al hk _) hb | have hk := Blk.bel (Blk.al (Blk.al hk _) _) hb); have c_hk := Blk.cell hk; have f_hk := Blk.frozen hk))
      go_ret
      exact ⟨rfl, by (repeat' first | exact bel_refl _ | refine bel_al ?_ _ | refine bel_dr ?_ | refine bel_drN ?_ _ | refine bel_nx ?_ (by assumption) | (refine bel_set ?_ (by first | omega | (simp; omega)) _))⟩
    · obtain ⟨y1, y2, y3, y4, y5, y6, y7, y8, y9⟩ := hw hv
      clear hw y9 y4 y5 y6
      by_cases hx : x = 1
      · have e3 : (x == 1) = true := by simp [hx]
        clear y8 hx
        go_wp2_with (first | (go_at_call 22; refine (implRetryAt_c _ _ _ _ _).mono ?_; rintro e wx ⟨rfl, hb⟩; (first | have hk := Blk.bel hk hb | have hk := Blk.bel (Blk.dr hk) hb | have hk := Blk.bel (Blk.al hk _) hb | have hk := Blk.bel (Blk.al (Blk.al hk _) _) hb); have c_hk := Blk.cell hk; have f_hk := Blk.frozen hk) | (go_at_call 21; refine (specRetryAt_c _ _ _ _ _).mono ?_; rintro e wx ⟨rfl, hb⟩; (first | have hk := Blk.bel hk hb | have hk := Blk.bel (Blk.dr hk) hb | have hk := Blk.bel (Blk.al hk _) hb | have hk := Blk.bel (Blk.al (Blk.al hk _) _) hb); have c_hk := Blk.cell hk; have f_hk := Blk.frozen hk) | (go_at_call 20; refine (implRetryWait_c _ _ _ _ _).mono ?_; rintro e wx ⟨rfl, hb⟩; (first | have hk := Blk.bel hk hb | have hk := Blk.bel (Blk.dr hk) hb | have hk := Blk.bel (Blk.al hk _) hb | have hk := Blk.bel (Blk.al (Blk.al hk _) _) hb); have c_hk := Blk.cell hk; have f_hk := Blk.frozen hk) | (go_at_call 19; refine (specRetryWait_c _ _ _ _ _).mono ?_; rintro e wx ⟨rfl, hb⟩; (first | have hk := Blk.bel hk hb | have hk := Blk.bel (Blk.dr hk) hb | have hk := Blk.bel (Blk.al hk _) hb | have hk := Blk.bel (Blk.al (Blk.al hk _) _) hb); have c_hk := Blk.cell hk; have f_hk := Blk.frozen hk))
        go_ret
        exact ⟨rfl, by (repeat' first | exact bel_refl _ | refine bel_al ?_ _ | refine bel_dr ?_ | refine bel_drN ?_ _ | refine bel_nx ?_ (by assumption) | (refine bel_set ?_ (by first | omega | (simp; omega)) _))⟩
      · obtain ⟨z1, z2, z3, z4, z5⟩ := y8 hx
        have e2 : (atF t f m (x - 1) + waitF t f m (x - 1) == atF t f m x) = true := by simp [z5]
        have e3 : (x == 1) = false := by simpa using hx
        have ew1 : IntKind.i64.wrap (x - 1) = x - 1 := IntWalk.i64_in _ (by omega)
        have ew2 : IntKind.i64.wrap (atF t f m (x - 1) + waitF t f m (x - 1)) = atF t f m (x - 1) + waitF t f m (x - 1) := IntWalk.i64_in _ (by omega)
        clear y8 hx z5
        go_wp2_with (first | (go_at_call 22; refine (implRetryAt_c _ _ _ _ _).mono ?_; rintro e wx ⟨rfl, hb⟩; (first | have hk := Blk.bel hk hb | have hk := Blk.bel (Blk.dr hk) hb | have hk := Blk.bel (Blk.al hk _) hb | have hk := Blk.bel (Blk.al (Blk.al hk _) _) hb); have c_hk := Blk.cell hk; have f_hk := Blk.frozen hk) | (go_at_call 21; refine (specRetryAt_c _ _ _ _ _).mono ?_; rintro e wx ⟨rfl, hb⟩; (first | have hk := Blk.bel hk hb | have hk := Blk.bel (Blk.dr hk) hb | have hk := Blk.bel (Blk.al hk _) hb | have hk := Blk.bel (Blk.al (Blk.al hk _) _) hb); have c_hk := Blk.cell hk; have f_hk := Blk.frozen hk) | (go_at_call 20; refine (implRetryWait_c _ _ _ _ _).mono ?_; rintro e wx ⟨rfl, hb⟩; (first | have hk := Blk.bel hk hb | have hk := Blk.bel (Blk.dr hk) hb | have hk := Blk.bel (Blk.al hk _) hb | have hk := Blk.bel (Blk.al (Blk.al hk _) _) hb); have c_hk := Blk.cell hk; have f_hk := Blk.frozen hk) | (go_at_call 19; refine (specRetryWait_c _ _ _ _ _).mono ?_; rintro e wx ⟨rfl, hb⟩; (first | have hk := Blk.bel hk hb | have hk := Blk.bel (Blk.dr hk) hb | have hk := Blk.bel (Blk.al hk _) hb | have hk := Blk.bel (Blk.al (Blk.al hk _) _) hb); have c_hk := Blk.cell hk; have f_hk := Blk.frozen hk))
        go_region_held3 (fun w' => w'.cell? ⟨w1.heap.size, 0, none⟩ = some (.int .i64 t) ∧ w'.cell? ⟨w1.heap.size, 1, none⟩ = some (.int .i64 f) ∧ w'.cell? ⟨w1.heap.size, 2, none⟩ = some (.int .i64 m)) (first | go_keep | exact ⟨c_hk 0, c_hk 1, c_hk 2⟩) (((first | (go_at_call 22; refine (implRetryAt_c _ _ _ _ _).mono ?_; rintro e wx ⟨rfl, hb⟩; (first | have hk := Blk.bel hk hb | have hk := Blk.bel (Blk.dr hk) hb | have hk := Blk.bel (Blk.al hk _) hb | have hk := Blk.bel (Blk.al (Blk.al hk _) _) hb); have c_hk := Blk.cell hk; have f_hk := Blk.frozen hk) | (go_at_call 20; refine (implRetryWait_c _ _ _ _ _).mono ?_; rintro e wx ⟨rfl, hb⟩; (first | have hk := Blk.bel hk hb | have hk := Blk.bel (Blk.dr hk) hb | have hk := Blk.bel (Blk.al hk _) hb | have hk := Blk.bel (Blk.al (Blk.al hk _) _) hb); have c_hk := Blk.cell hk; have f_hk := Blk.frozen hk))))
        go_wp2
        go_ret
        exact ⟨rfl, by (repeat' first | exact bel_refl _ | refine bel_al ?_ _ | refine bel_dr ?_ | refine bel_drN ?_ _ | refine bel_nx ?_ (by assumption) | (refine bel_set ?_ (by first | omega | (simp; omega)) _))⟩

set_option maxRecDepth 100000 in
theorem fnRetryAt_l (os : Os) (started : os.Started) (H : Type) (enc : TypeId × Value → H) :
    ReturnsInHanded {} Try.checked os 11 .any (Rows.fnRetryAtSpec.pre6 enc Try.prog Try.f11 Rows.fnRetryAtRow.domain false) (Rows.fnRetryAtSpec.post enc Try.prog Try.f11 false true false false) := by
  refine returnsInHanded_of_change (C := Try.checked) own started (by kernel_rfl) Try.func11
    (ChangeSpec.witness6 (enc := enc) (C := Try.checked) false ⟨#[], #[.slice none 0 0], []⟩ 8 (by kernel_rfl) (by kernel_rfl) (by kernel_rfl) (by kernel_rfl)) ?_
  intro W base args ds gs before hval0 hW hcnd _
  have hval : ∀ (j : Nat) t v, Try.f11.params[j]? = some t → args[j]? = some v → Value.okWide Try.prog W .any base t v := hval0
  have hW' := hW
  obtain ⟨p, q, hA0, hV, rfl, hfz, hnd⟩ := hW
  have hA : DataW.TrodAll enc Try.prog W 0 (fun _ => true) true Try.f11.params.toList args.toList ds p := hA0
  rw [Try.params11] at hA hval
  obtain ⟨v0, vs0, d0, ds0, p0, q0, hargs, rfl, rfl, h0, r0⟩ := trodAll_cons hA
  obtain ⟨rfl, rfl, rfl⟩ := trodAll_nil r0
  obtain rfl : args = #[v0] := by cases args; simp_all
  obtain ⟨rfl, rfl⟩ := trodVars_none hV
  have k0 := h0
  have lt0 : ∀ x ∈ p0, x.block < W.heap.size := by obtain ⟨m, hm⟩ := k0; exact DataW.trod_lt m _ _ _ hm
  obtain ⟨A0, n0, c0, rfl⟩ := okWide_slice Try.underlying28 (hval 0 28 v0 rfl rfl)
  obtain ⟨z0, w0⟩ := bytes_row h0 (fun _ => rfl)
  clear hA0 hval0
  refine (fnRetryAt_w A0 n0 c0 z0 W w0).mono fun e W' ⟨he, bel⟩ => ?_
  subst he
  exact ⟨_, rfl, _, _, _, [], _, [], hW', trodAll_mk1 (shut_bool Try.underlying4 _), (trodAll_cons_mk (Below.trod laidOut (by kernel_rfl) (of_decide_eq_true (by kernel_rfl)) k0 bel lt0) trodAll_mk0), rfl, bel.frame _, fun h => by cases h⟩

theorem fnRetryAt_holds : Rows.FnRetryAtSaid :=
  OpenClaim.holds_of_wide 11 Try.f11 rfl rfl rfl rfl rfl rfl rfl ⟨rfl, rfl, rfl, rfl, rfl⟩ rfl rfl rfl rfl rfl (by kernel_rfl) Try.func11 (by kernel_rfl)
    (of_decide_eq_true (by kernel_rfl)) (by unfold Func.isWrapper; first | (rw [if_pos (by decide +kernel)]; kernel_rfl) | (rw [if_neg (by decide +kernel)]; exact ⟨rfl, rfl⟩))
    (fun os started H enc _ => fnRetryAt_l os started H enc)
#print axioms fnRetryAt_holds

set_option maxHeartbeats 400000 in
theorem fnRetryAtBy_w (A : Option Addr) (n c : Nat) (zs : List Int) (w : World) (h : IsRow .u8 w A n c zs) : Calls Try.prog 12 #[.slice A n c] w fun e w' => e = .returned (.bool true) ∧ Below w.heap.size w w' := by
  obtain ⟨l1, l2⟩ := row_len h
  by_cases hn : 1048576 < n
  · go_enter Try.func12, Try.ntmps12
    go_wp2_with fail
    go_ret
    exact ⟨rfl, Below.refl _ _⟩
  · go_enter Try.func12, Try.ntmps12
    go_wp2_with fail
    refine (drawRetryAt_c A n c zs _ h).mono ?_
    rintro e w1 ⟨t, f, m, x, rfl, hbd, ⟨x1, x2⟩, hb1⟩
    have hk := Blk.new w1 25 #[.int .i64 t, .int .i64 f, .int .i64 m]
    have hw := at_facts t f m x
    by_cases hv : atF t f m x < 0
    · clear hw
      go_wp2_with (first | (go_at_call 22; refine (implRetryAt_c _ _ _ _ _).mono ?_; rintro e wx ⟨rfl, hb⟩; (first | have hk := Blk.bel hk hb | have hk := Blk.bel (Blk.dr hk) hb | have hk := Blk.bel (Blk.al hk _) hb | have hk := Blk.bel (Blk.al (Blk.al hk _) _) hb); have c_hk := Blk.cell hk; have f_hk := Blk.frozen hk) | (go_at_call 21; refine (specRetryAt_c _ _ _ _ _).mono ?_; rintro e wx ⟨rfl, hb⟩; (first | have hk := Blk.bel hk hb | have hk := Blk.bel (Blk.dr hk) hb | have hk := Blk.bel (Blk.al hk _) hb | have hk := Blk.bel (Blk.al (Blk.al hk _) _) hb); have c_hk := Blk.cell hk; have f_hk := Blk.frozen hk) | (go_at_call 24; refine (implRetryBy_c _ _ _ _ _).mono ?_; rintro e wx ⟨rfl, hb⟩; (first | have hk := Blk.bel hk hb | have hk := Blk.bel (Blk.dr hk) hb | have hk := Blk.bel (Blk.al hk _) hb | have hk := Blk.bel (Blk.al (Blk.al hk _) _) hb); have c_hk := Blk.cell hk; have f_hk := Blk.frozen hk) | (go_at_call 23; refine (specRetryBy_c _ _ _ _ _).mono ?_; rintro e wx ⟨rfl, hb⟩; (first | have hk := Blk.bel hk hb | have hk := Blk.bel (Blk.dr hk) hb | have hk := Blk.bel (Blk.al hk _) hb | have hk := Blk.bel (Blk.al (Blk.al hk _) _) hb); have c_hk := Blk.cell hk; have f_hk := Blk.frozen hk))
      go_ret
      exact ⟨rfl, by (repeat' first | exact bel_refl _ | refine bel_al ?_ _ | refine bel_dr ?_ | refine bel_drN ?_ _ | refine bel_nx ?_ (by assumption) | (refine bel_set ?_ (by first | omega | (simp; omega)) _))⟩
    · obtain ⟨y1, y2, y3, y4, y5, y6, y7, y8, y9⟩ := hw hv
      clear hw y8 y4 y5 y6
      have e2 : (byF t f m (atF t f m x) == x) = true := by simp [y9]
      clear y9
      go_wp2_with (first | (go_at_call 22; refine (implRetryAt_c _ _ _ _ _).mono ?_; rintro e wx ⟨rfl, hb⟩; (first | have hk := Blk.bel hk hb | have hk := Blk.bel (Blk.dr hk) hb | have hk := Blk.bel (Blk.al hk _) hb | have hk := Blk.bel (Blk.al (Blk.al hk _) _) hb); have c_hk := Blk.cell hk; have f_hk := Blk.frozen hk) | (go_at_call 21; refine (specRetryAt_c _ _ _ _ _).mono ?_; rintro e wx ⟨rfl, hb⟩; (first | have hk := Blk.bel hk hb | have hk := Blk.bel (Blk.dr hk) hb | have hk := Blk.bel (Blk.al hk _) hb | have hk := Blk.bel (Blk.al (Blk.al hk _) _) hb); have c_hk := Blk.cell hk; have f_hk := Blk.frozen hk) | (go_at_call 24; refine (implRetryBy_c _ _ _ _ _).mono ?_; rintro e wx ⟨rfl, hb⟩; (first | have hk := Blk.bel hk hb | have hk := Blk.bel (Blk.dr hk) hb | have hk := Blk.bel (Blk.al hk _) hb | have hk := Blk.bel (Blk.al (Blk.al hk _) _) hb); have c_hk := Blk.cell hk; have f_hk := Blk.frozen hk) | (go_at_call 23; refine (specRetryBy_c _ _ _ _ _).mono ?_; rintro e wx ⟨rfl, hb⟩; (first | have hk := Blk.bel hk hb | have hk := Blk.bel (Blk.dr hk) hb | have hk := Blk.bel (Blk.al hk _) hb | have hk := Blk.bel (Blk.al (Blk.al hk _) _) hb); have c_hk := Blk.cell hk; have f_hk := Blk.frozen hk))
      go_ret
      exact ⟨rfl, by (repeat' first | exact bel_refl _ | refine bel_al ?_ _ | refine bel_dr ?_ | refine bel_drN ?_ _ | refine bel_nx ?_ (by assumption) | (refine bel_set ?_ (by first | omega | (simp; omega)) _))⟩

set_option maxRecDepth 100000 in
theorem fnRetryAtBy_l (os : Os) (started : os.Started) (H : Type) (enc : TypeId × Value → H) :
    ReturnsInHanded {} Try.checked os 12 .any (Rows.fnRetryAtBySpec.pre6 enc Try.prog Try.f12 Rows.fnRetryAtByRow.domain false) (Rows.fnRetryAtBySpec.post enc Try.prog Try.f12 false true false false) := by
  refine returnsInHanded_of_change (C := Try.checked) own started (by kernel_rfl) Try.func12
    (ChangeSpec.witness6 (enc := enc) (C := Try.checked) false ⟨#[], #[.slice none 0 0], []⟩ 8 (by kernel_rfl) (by kernel_rfl) (by kernel_rfl) (by kernel_rfl)) ?_
  intro W base args ds gs before hval0 hW hcnd _
  have hval : ∀ (j : Nat) t v, Try.f12.params[j]? = some t → args[j]? = some v → Value.okWide Try.prog W .any base t v := hval0
  have hW' := hW
  obtain ⟨p, q, hA0, hV, rfl, hfz, hnd⟩ := hW
  have hA : DataW.TrodAll enc Try.prog W 0 (fun _ => true) true Try.f12.params.toList args.toList ds p := hA0
  rw [Try.params12] at hA hval
  obtain ⟨v0, vs0, d0, ds0, p0, q0, hargs, rfl, rfl, h0, r0⟩ := trodAll_cons hA
  obtain ⟨rfl, rfl, rfl⟩ := trodAll_nil r0
  obtain rfl : args = #[v0] := by cases args; simp_all
  obtain ⟨rfl, rfl⟩ := trodVars_none hV
  have k0 := h0
  have lt0 : ∀ x ∈ p0, x.block < W.heap.size := by obtain ⟨m, hm⟩ := k0; exact DataW.trod_lt m _ _ _ hm
  obtain ⟨A0, n0, c0, rfl⟩ := okWide_slice Try.underlying28 (hval 0 28 v0 rfl rfl)
  obtain ⟨z0, w0⟩ := bytes_row h0 (fun _ => rfl)
  clear hA0 hval0
  refine (fnRetryAtBy_w A0 n0 c0 z0 W w0).mono fun e W' ⟨he, bel⟩ => ?_
  subst he
  exact ⟨_, rfl, _, _, _, [], _, [], hW', trodAll_mk1 (shut_bool Try.underlying4 _), (trodAll_cons_mk (Below.trod laidOut (by kernel_rfl) (of_decide_eq_true (by kernel_rfl)) k0 bel lt0) trodAll_mk0), rfl, bel.frame _, fun h => by cases h⟩

theorem fnRetryAtBy_holds : Rows.FnRetryAtBySaid :=
  OpenClaim.holds_of_wide 12 Try.f12 rfl rfl rfl rfl rfl rfl rfl ⟨rfl, rfl, rfl, rfl, rfl⟩ rfl rfl rfl rfl rfl (by kernel_rfl) Try.func12 (by kernel_rfl)
    (of_decide_eq_true (by kernel_rfl)) (by unfold Func.isWrapper; first | (rw [if_pos (by decide +kernel)]; kernel_rfl) | (rw [if_neg (by decide +kernel)]; exact ⟨rfl, rfl⟩))
    (fun os started H enc _ => fnRetryAtBy_l os started H enc)
#print axioms fnRetryAtBy_holds

end Go.Proofs.Ytmobpfphehmleaa
