/- For every code that a policy is drawn from: the last try that has begun is told; later no fewer tries have begun. No conditions. -/
import Derived.Test.YtmobpfphehmleaaRetryWalks
import Derived.Test.YtmobpfphehmleaaRetryDraw2
import Derived.Test.YtmobpfphehmleaaRetryPlain2
import Derived.Test.YtmobpfphehmleaaLift
namespace Go.Proofs.Ytmobpfphehmleaa
open Go.ChangeShapes Go.WideShapes Go.ChangeAt Go.RowKit Go.Joins

set_option maxHeartbeats 400000 in
theorem fnRetryBy_w (A : Option Addr) (n c : Nat) (zs : List Int) (w : World) (h : IsRow .u8 w A n c zs) : Calls Try.prog 13 #[.slice A n c] w fun e w' => e = .returned (.bool true) ∧ Below w.heap.size w w' := by
  obtain ⟨l1, l2⟩ := row_len h
  by_cases hn : 1048576 < n
  · go_enter Try.func13, Try.ntmps13
    go_wp2_with fail
    go_ret
    exact ⟨rfl, Below.refl _ _⟩
  · go_enter Try.func13, Try.ntmps13
    go_wp2_with fail
    refine (drawRetryBy_c A n c zs _ h).mono ?_
    rintro e w1 ⟨t, f, m, x, rfl, hbd, ⟨x1, x2⟩, hb1⟩
    have hk := Blk.new w1 25 #[.int .i64 t, .int .i64 f, .int .i64 m]
    have hw := by_facts t f m x
    by_cases hv : byF t f m x < 0
    · clear hw
      go_wp2_with (first | (go_at_call 24; refine (implRetryBy_c _ _ _ _ _).mono ?_; rintro e wx ⟨rfl, hb⟩; (first | have hk := Blk.bel hk hb | have hk := Blk.bel (Blk.dr hk) hb | have hk := Blk.bel (Blk.al hk _) hb | have hk := Blk.bel (Blk.al (Blk.al hk _) _) hb); have c_hk := Blk.cell hk; have f_hk := Blk.frozen hk) | (go_at_call 23; refine (specRetryBy_c _ _ _ _ _).mono ?_; rintro e wx ⟨rfl, hb⟩; (first | have hk := Blk.bel hk hb | have hk := Blk.bel (Blk.dr hk) hb | have hk := Blk.bel (Blk.al hk _) hb | have hk := Blk.bel (Blk.al (Blk.al hk _) _) hb); have c_hk := Blk.cell hk; have f_hk := Blk.frozen hk) | (go_at_call 22; refine (implRetryAt_c _ _ _ _ _).mono ?_; rintro e wx ⟨rfl, hb⟩; (first | have hk := Blk.bel hk hb | have hk := Blk.bel (Blk.dr hk) hb | have hk := Blk.bel (Blk.al hk _) hb | have hk := Blk.bel (Blk.al (Blk.al hk _) _) hb); have c_hk := Blk.cell hk; have f_hk := Blk.frozen hk) | (go_at_call 21; refine (specRetryAt_c _ _ _ _ _).mono ?_; rintro e wx ⟨rfl, hb⟩; (first | have hk := Blk.bel hk hb | have hk := Blk.bel (Blk.dr hk) hb | have hk := Blk.bel (Blk.al hk _) hb | have hk := Blk.bel (Blk.al (Blk.al hk _) _) hb); have c_hk := Blk.cell hk; have f_hk := Blk.frozen hk))
      go_ret
      exact ⟨rfl, by (repeat' first | exact bel_refl _ | refine bel_al ?_ _ | refine bel_dr ?_ | refine bel_drN ?_ _ | refine bel_nx ?_ (by assumption) | (refine bel_set ?_ (by first | omega | (simp; omega)) _))⟩
    · obtain ⟨y1, y2, y3, y4, y5, y6⟩ := hw hv
      clear hw y6
      rcases y5 with ⟨z1, z2⟩ | ⟨z1, z2⟩
      · have e1 : (atF t f m (byF t f m x + 1) == -1) = true := by simp [z1]
        have e2 : (byF t f m x == t) = true := by simp [z2]
        clear z1 z2
        go_wp2_with (first | (go_at_call 24; refine (implRetryBy_c _ _ _ _ _).mono ?_; rintro e wx ⟨rfl, hb⟩; (first | have hk := Blk.bel hk hb | have hk := Blk.bel (Blk.dr hk) hb | have hk := Blk.bel (Blk.al hk _) hb | have hk := Blk.bel (Blk.al (Blk.al hk _) _) hb); have c_hk := Blk.cell hk; have f_hk := Blk.frozen hk) | (go_at_call 23; refine (specRetryBy_c _ _ _ _ _).mono ?_; rintro e wx ⟨rfl, hb⟩; (first | have hk := Blk.bel hk hb | have hk := Blk.bel (Blk.dr hk) hb | have hk := Blk.bel (Blk.al hk _) hb | have hk := Blk.bel (Blk.al (Blk.al hk _) _) hb); have c_hk := Blk.cell hk; have f_hk := Blk.frozen hk) | (go_at_call 22; refine (implRetryAt_c _ _ _ _ _).mono ?_; rintro e wx ⟨rfl, hb⟩; (first | have hk := Blk.bel hk hb | have hk := Blk.bel (Blk.dr hk) hb | have hk := Blk.bel (Blk.al hk _) hb | have hk := Blk.bel (Blk.al (Blk.al hk _) _) hb); have c_hk := Blk.cell hk; have f_hk := Blk.frozen hk) | (go_at_call 21; refine (specRetryAt_c _ _ _ _ _).mono ?_; rintro e wx ⟨rfl, hb⟩; (first | have hk := Blk.bel hk hb | have hk := Blk.bel (Blk.dr hk) hb | have hk := Blk.bel (Blk.al hk _) hb | have hk := Blk.bel (Blk.al (Blk.al hk _) _) hb); have c_hk := Blk.cell hk; have f_hk := Blk.frozen hk))
        go_ret
        exact ⟨rfl, by (repeat' first | exact bel_refl _ | refine bel_al ?_ _ | refine bel_dr ?_ | refine bel_drN ?_ _ | refine bel_nx ?_ (by assumption) | (refine bel_set ?_ (by first | omega | (simp; omega)) _))⟩
      · have e1 : (atF t f m (byF t f m x + 1) == -1) = false := by simp; omega
        go_wp2_with (first | (go_at_call 24; refine (implRetryBy_c _ _ _ _ _).mono ?_; rintro e wx ⟨rfl, hb⟩; (first | have hk := Blk.bel hk hb | have hk := Blk.bel (Blk.dr hk) hb | have hk := Blk.bel (Blk.al hk _) hb | have hk := Blk.bel (Blk.al (Blk.al hk _) _) hb); have c_hk := Blk.cell hk; have f_hk := Blk.frozen hk) | (go_at_call 23; refine (specRetryBy_c _ _ _ _ _).mono ?_; rintro e wx ⟨rfl, hb⟩; (first | have hk := Blk.bel hk hb | have hk := Blk.bel (Blk.dr hk) hb | have hk := Blk.bel (Blk.al hk _) hb | have hk := Blk.bel (Blk.al (Blk.al hk _) _) hb); have c_hk := Blk.cell hk; have f_hk := Blk.frozen hk) | (go_at_call 22; refine (implRetryAt_c _ _ _ _ _).mono ?_; rintro e wx ⟨rfl, hb⟩; (first | have hk := Blk.bel hk hb | have hk := Blk.bel (Blk.dr hk) hb | have hk := Blk.bel (Blk.al hk _) hb | have hk := Blk.bel (Blk.al (Blk.al hk _) _) hb); have c_hk := Blk.cell hk; have f_hk := Blk.frozen hk) | (go_at_call 21; refine (specRetryAt_c _ _ _ _ _).mono ?_; rintro e wx ⟨rfl, hb⟩; (first | have hk := Blk.bel hk hb | have hk := Blk.bel (Blk.dr hk) hb | have hk := Blk.bel (Blk.al hk _) hb | have hk := Blk.bel (Blk.al (Blk.al hk _) _) hb); have c_hk := Blk.cell hk; have f_hk := Blk.frozen hk))
        go_ret
        exact ⟨rfl, by (repeat' first | exact bel_refl _ | refine bel_al ?_ _ | refine bel_dr ?_ | refine bel_drN ?_ _ | refine bel_nx ?_ (by assumption) | (refine bel_set ?_ (by first | omega | (simp; omega)) _))⟩

set_option maxRecDepth 100000 in
theorem fnRetryBy_l (os : Os) (started : os.Started) (H : Type) (enc : TypeId × Value → H) :
    ReturnsInHanded {} Try.checked os 13 .any (Rows.fnRetryBySpec.pre6 enc Try.prog Try.f13 Rows.fnRetryByRow.domain false) (Rows.fnRetryBySpec.post enc Try.prog Try.f13 false true false false) := by
  refine returnsInHanded_of_change (C := Try.checked) own started (by kernel_rfl) Try.func13
    (ChangeSpec.witness6 (enc := enc) (C := Try.checked) false ⟨#[], #[.slice none 0 0], []⟩ 8 (by kernel_rfl) (by kernel_rfl) (by kernel_rfl) (by kernel_rfl)) ?_
  intro W base args ds gs before hval0 hW hcnd _
  have hval : ∀ (j : Nat) t v, Try.f13.params[j]? = some t → args[j]? = some v → Value.okWide Try.prog W .any base t v := hval0
  have hW' := hW
  obtain ⟨p, q, hA0, hV, rfl, hfz, hnd⟩ := hW
  have hA : DataW.TrodAll enc Try.prog W 0 (fun _ => true) true Try.f13.params.toList args.toList ds p := hA0
  rw [Try.params13] at hA hval
  obtain ⟨v0, vs0, d0, ds0, p0, q0, hargs, rfl, rfl, h0, r0⟩ := trodAll_cons hA
  obtain ⟨rfl, rfl, rfl⟩ := trodAll_nil r0
  obtain rfl : args = #[v0] := by cases args; simp_all
  obtain ⟨rfl, rfl⟩ := trodVars_none hV
  have k0 := h0
  have lt0 : ∀ x ∈ p0, x.block < W.heap.size := by obtain ⟨m, hm⟩ := k0; exact DataW.trod_lt m _ _ _ hm
  obtain ⟨A0, n0, c0, rfl⟩ := okWide_slice Try.underlying28 (hval 0 28 v0 rfl rfl)
  obtain ⟨z0, w0⟩ := bytes_row h0 (fun _ => rfl)
  clear hA0 hval0
  refine (fnRetryBy_w A0 n0 c0 z0 W w0).mono fun e W' ⟨he, bel⟩ => ?_
  subst he
  exact ⟨_, rfl, _, _, _, [], _, [], hW', trodAll_mk1 (shut_bool Try.underlying4 _), (trodAll_cons_mk (Below.trod laidOut (by kernel_rfl) (of_decide_eq_true (by kernel_rfl)) k0 bel lt0) trodAll_mk0), rfl, bel.frame _, fun h => by cases h⟩

theorem fnRetryBy_holds : Rows.FnRetryBySaid :=
  OpenClaim.holds_of_wide 13 Try.f13 rfl rfl rfl rfl rfl rfl rfl ⟨rfl, rfl, rfl, rfl, rfl⟩ rfl rfl rfl rfl rfl (by kernel_rfl) Try.func13 (by kernel_rfl)
    (of_decide_eq_true (by kernel_rfl)) (by unfold Func.isWrapper; first | (rw [if_pos (by decide +kernel)]; kernel_rfl) | (rw [if_neg (by decide +kernel)]; exact ⟨rfl, rfl⟩))
    (fun os started H enc _ => fnRetryBy_l os started H enc)
#print axioms fnRetryBy_holds

set_option maxHeartbeats 400000 in
theorem fnRetryByMore_w (A : Option Addr) (n c : Nat) (zs : List Int) (w : World) (h : IsRow .u8 w A n c zs) : Calls Try.prog 14 #[.slice A n c] w fun e w' => e = .returned (.bool true) ∧ Below w.heap.size w w' := by
  obtain ⟨l1, l2⟩ := row_len h
  by_cases hn : 1048576 < n
  · go_enter Try.func14, Try.ntmps14
    go_wp2_with fail
    go_ret
    exact ⟨rfl, Below.refl _ _⟩
  · go_enter Try.func14, Try.ntmps14
    go_wp2_with fail
    refine (drawRetryBy_c A n c zs _ h).mono ?_
    rintro e w1 ⟨t, f, m, x, rfl, hbd, ⟨x1, x2⟩, hb1⟩
    have hk := Blk.new w1 25 #[.int .i64 t, .int .i64 f, .int .i64 m]
    have hw := by_facts t f m x
    by_cases hv : byF t f m x < 0
    · clear hw
      go_wp2_with (first | (go_at_call 24; refine (implRetryBy_c _ _ _ _ _).mono ?_; rintro e wx ⟨rfl, hb⟩; (first | have hk := Blk.bel hk hb | have hk := Blk.bel (Blk.dr hk) hb | have hk := Blk.bel (Blk.al hk _) hb | have hk := Blk.bel (Blk.al (Blk.al hk _) _) hb); have c_hk := Blk.cell hk; have f_hk := Blk.frozen hk) | (go_at_call 23; refine (specRetryBy_c _ _ _ _ _).mono ?_; rintro e wx ⟨rfl, hb⟩; (first | have hk := Blk.bel hk hb | have hk := Blk.bel (Blk.dr hk) hb | have hk := Blk.bel (Blk.al hk _) hb | have hk := Blk.bel (Blk.al (Blk.al hk _) _) hb); have c_hk := Blk.cell hk; have f_hk := Blk.frozen hk))
      go_ret
      exact ⟨rfl, by (repeat' first | exact bel_refl _ | refine bel_al ?_ _ | refine bel_dr ?_ | refine bel_drN ?_ _ | refine bel_nx ?_ (by assumption) | (refine bel_set ?_ (by first | omega | (simp; omega)) _))⟩
    · obtain ⟨y1, y2, y3, y4, y5, y6⟩ := hw hv
      clear hw y5 y4
      rcases y6 with z1 | z1
      · have e1 : (byF t f m (x + 1) == byF t f m x) = true := by simp [z1]
        clear z1
        go_wp2_with (first | (go_at_call 24; refine (implRetryBy_c _ _ _ _ _).mono ?_; rintro e wx ⟨rfl, hb⟩; (first | have hk := Blk.bel hk hb | have hk := Blk.bel (Blk.dr hk) hb | have hk := Blk.bel (Blk.al hk _) hb | have hk := Blk.bel (Blk.al (Blk.al hk _) _) hb); have c_hk := Blk.cell hk; have f_hk := Blk.frozen hk) | (go_at_call 23; refine (specRetryBy_c _ _ _ _ _).mono ?_; rintro e wx ⟨rfl, hb⟩; (first | have hk := Blk.bel hk hb | have hk := Blk.bel (Blk.dr hk) hb | have hk := Blk.bel (Blk.al hk _) hb | have hk := Blk.bel (Blk.al (Blk.al hk _) _) hb); have c_hk := Blk.cell hk; have f_hk := Blk.frozen hk))
        go_ret
        exact ⟨rfl, by (repeat' first | exact bel_refl _ | refine bel_al ?_ _ | refine bel_dr ?_ | refine bel_drN ?_ _ | refine bel_nx ?_ (by assumption) | (refine bel_set ?_ (by first | omega | (simp; omega)) _))⟩
      · have e1 : (byF t f m (x + 1) == byF t f m x) = false := by simp; omega
        have e2 : (byF t f m (x + 1) == byF t f m x + 1) = true := by simp [z1]
        clear z1
        go_wp2_with (first | (go_at_call 24; refine (implRetryBy_c _ _ _ _ _).mono ?_; rintro e wx ⟨rfl, hb⟩; (first | have hk := Blk.bel hk hb | have hk := Blk.bel (Blk.dr hk) hb | have hk := Blk.bel (Blk.al hk _) hb | have hk := Blk.bel (Blk.al (Blk.al hk _) _) hb); have c_hk := Blk.cell hk; have f_hk := Blk.frozen hk) | (go_at_call 23; refine (specRetryBy_c _ _ _ _ _).mono ?_; rintro e wx ⟨rfl, hb⟩; (first | have hk := Blk.bel hk hb | have hk := Blk.bel (Blk.dr hk) hb | have hk := Blk.bel (Blk.al hk _) hb | have hk := Blk.bel (Blk.al (Blk.al hk _) _) hb); have c_hk := Blk.cell hk; have f_hk := Blk.frozen hk))
        go_ret
        exact ⟨rfl, by (repeat' first | exact bel_refl _ | refine bel_al ?_ _ | refine bel_dr ?_ | refine bel_drN ?_ _ | refine bel_nx ?_ (by assumption) | (refine bel_set ?_ (by first | omega | (simp; omega)) _))⟩

set_option maxRecDepth 100000 in
theorem fnRetryByMore_l (os : Os) (started : os.Started) (H : Type) (enc : TypeId × Value → H) :
    ReturnsInHanded {} Try.checked os 14 .any (Rows.fnRetryByMoreSpec.pre6 enc Try.prog Try.f14 Rows.fnRetryByMoreRow.domain false) (Rows.fnRetryByMoreSpec.post enc Try.prog Try.f14 false true false false) := by
  refine returnsInHanded_of_change (C := Try.checked) own started (by kernel_rfl) Try.func14
    (ChangeSpec.witness6 (enc := enc) (C := Try.checked) false ⟨#[], #[.slice none 0 0], []⟩ 8 (by kernel_rfl) (by kernel_rfl) (by kernel_rfl) (by kernel_rfl)) ?_
  intro W base args ds gs before hval0 hW hcnd _
  have hval : ∀ (j : Nat) t v, Try.f14.params[j]? = some t → args[j]? = some v → Value.okWide Try.prog W .any base t v := hval0
  have hW' := hW
  obtain ⟨p, q, hA0, hV, rfl, hfz, hnd⟩ := hW
  have hA : DataW.TrodAll enc Try.prog W 0 (fun _ => true) true Try.f14.params.toList args.toList ds p := hA0
  rw [Try.params14] at hA hval
  obtain ⟨v0, vs0, d0, ds0, p0, q0, hargs, rfl, rfl, h0, r0⟩ := trodAll_cons hA
  obtain ⟨rfl, rfl, rfl⟩ := trodAll_nil r0
  obtain rfl : args = #[v0] := by cases args; simp_all
  obtain ⟨rfl, rfl⟩ := trodVars_none hV
  have k0 := h0
  have lt0 : ∀ x ∈ p0, x.block < W.heap.size := by obtain ⟨m, hm⟩ := k0; exact DataW.trod_lt m _ _ _ hm
  obtain ⟨A0, n0, c0, rfl⟩ := okWide_slice Try.underlying28 (hval 0 28 v0 rfl rfl)
  obtain ⟨z0, w0⟩ := bytes_row h0 (fun _ => rfl)
  clear hA0 hval0
  refine (fnRetryByMore_w A0 n0 c0 z0 W w0).mono fun e W' ⟨he, bel⟩ => ?_
  subst he
  exact ⟨_, rfl, _, _, _, [], _, [], hW', trodAll_mk1 (shut_bool Try.underlying4 _), (trodAll_cons_mk (Below.trod laidOut (by kernel_rfl) (of_decide_eq_true (by kernel_rfl)) k0 bel lt0) trodAll_mk0), rfl, bel.frame _, fun h => by cases h⟩

theorem fnRetryByMore_holds : Rows.FnRetryByMoreSaid :=
  OpenClaim.holds_of_wide 14 Try.f14 rfl rfl rfl rfl rfl rfl rfl ⟨rfl, rfl, rfl, rfl, rfl⟩ rfl rfl rfl rfl rfl (by kernel_rfl) Try.func14 (by kernel_rfl)
    (of_decide_eq_true (by kernel_rfl)) (by unfold Func.isWrapper; first | (rw [if_pos (by decide +kernel)]; kernel_rfl) | (rw [if_neg (by decide +kernel)]; exact ⟨rfl, rfl⟩))
    (fun os started H enc _ => fnRetryByMore_l os started H enc)
#print axioms fnRetryByMore_holds

end Go.Proofs.Ytmobpfphehmleaa
