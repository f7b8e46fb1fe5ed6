/- For all leases, every time and every name the program's LeaseHas returns what the reference's returns. No conditions. -/
import Derived.Test.YthkgechljfjpdaaLeaseHas
import Derived.Test.YthkgechljfjpdaaRecS
import Derived.Test.YthkgechljfjpdaaRecRow
namespace Go.Proofs.Ythkgechljfjpdaa
open Go.ChangeShapes Go.WideShapes Go.ChangeAt Go.RowKit Go.Joins

theorem eqRL_self (l : List R3) : eqRL l l = true := decide_eq_true rfl

set_option maxHeartbeats 400000 in
theorem exactLeaseHas_w (A : Option Addr) (n c : Nat) (l : List R3) (t : Int) (s : ByteArray) (w : World) (h : SlR w A n c l) (hz : SzR l) (hs : s.size ≤ 9223372036854775807) : Calls Try.prog 7 #[.slice A n c, .int .i64 t, .string s] w fun e w' => e = .returned (.bool true) ∧ Below w.heap.size w w' := by
  have HE := Lib.hid (eqRL_self l)
  by_cases hs1 : 1048576 < s.size
  · go_enter Try.func7, Try.ntmps7
    go_wp2_with fail
    go_ret
    exact ⟨rfl, Below.refl _ _⟩
  go_enter Try.func7, Try.ntmps7
  go_wp2_with fail
  refine (szRecS_c A n c l _ 1048576 h hz (by omega) (by omega)).mono ?_
  rintro e w0 ⟨r, rfl, hr, hb0⟩
  have h := h.bel hb0
  rcases hr with hr | ⟨hr0, hr1, hr2⟩
  · go_wp2_with fail
    go_ret
    exact ⟨rfl, hb0⟩
  · go_wp2_with fail
    refine (toRecS_c _ _ _ l _ h (by omega)).mono ?_
    rintro e w1 ⟨A1, c1, rfl, hown1, hb1⟩
    obtain ⟨q, hq⟩ : ∃ q, hasF l t s = q := ⟨_, rfl⟩
    go_wp2_with fail
    refine (specLeaseHas_c _ _ _ l t s _ (SlR.of_own hown1) hz hs).mono ?_
    rintro e w2 ⟨rfl, hb2⟩
    rw [hq]
    have HQ := Lib.hid hq
    clear hq
    go_wp2_with fail
    have h2 := (h.bel hb1).bel hb2
    refine (toRecS_c _ _ _ l _ h2 (by omega)).mono ?_
    rintro e w3 ⟨A3, c3, rfl, hown3, hb3⟩
    go_wp2_with fail
    refine (implLeaseHas_c _ _ _ l t s _ (SlR.of_own hown3) hz hs).mono ?_
    rintro e w4 ⟨rfl, hb4⟩
    rw [HQ.out]
    go_wp2_with fail
    refine (toRecS_c _ _ _ l _ ((h2.bel hb3).bel hb4) (by omega)).mono ?_
    rintro e w5 ⟨A5, c5, rfl, hown5, hb5⟩
    go_wp2_with fail
    refine (eqRecS_c _ _ _ _ _ _ l l _ (((SlR.of_own hown3).bel hb4).bel hb5) (SlR.of_own hown5)).mono ?_
    rintro e w6 ⟨rfl, hb6⟩
    rw [HE.out]
    go_wp2_with fail
    go_ret
    exact ⟨rfl, bel_nx (bel_nx (bel_nx (bel_nx (bel_nx (bel_nx hb0 hb1) hb2) hb3) hb4) hb5) hb6⟩

set_option maxRecDepth 100000 in
theorem fnExactLeaseHas_l (os : Os) (started : os.Started) (H : Type) (enc : TypeId × Value → H) :
    ReturnsInHanded {} Try.checked os 7 .any (Rows.fnExactLeaseHasSpec.pre6 enc Try.prog Try.f7 Rows.fnExactLeaseHasRow.domain false) (Rows.fnExactLeaseHasSpec.post enc Try.prog Try.f7 false true false false) := by
  refine returnsInHanded_of_change (C := Try.checked) own started (by kernel_rfl) Try.func7
    (ChangeSpec.witness6 (enc := enc) (C := Try.checked) false ⟨#[], #[.slice none 0 0, .int .i64 0, .string ByteArray.empty], []⟩ 8 (by kernel_rfl) (by kernel_rfl) (by kernel_rfl) (by kernel_rfl)) ?_
  intro W base args ds gs before hval0 hW hcnd _
  have hval : ∀ (j : Nat) t v, Try.f7.params[j]? = some t → args[j]? = some v → Value.okWide Try.prog W .any base t v := hval0
  have hW' := hW
  obtain ⟨p, q, hA0, hV, rfl, hfz, hnd⟩ := hW
  have hA : DataW.TrodAll enc Try.prog W 0 (fun _ => true) true Try.f7.params.toList args.toList ds p := hA0
  rw [Try.params7] at hA hval
  obtain ⟨v0, vs0, d0, ds0, p0, q0, hargs, rfl, rfl, h0, r0⟩ := trodAll_cons hA
  obtain ⟨v1, vs1, d1, ds1, p1, q1, rfl, rfl, rfl, h1, r1⟩ := trodAll_cons r0
  obtain ⟨v2, vs2, d2, ds2, p2, q2, rfl, rfl, rfl, h2, r2⟩ := trodAll_cons r1
  obtain ⟨rfl, rfl, rfl⟩ := trodAll_nil r2
  obtain rfl : args = #[v0, v1, v2] := by cases args; simp_all
  obtain ⟨rfl, rfl⟩ := trodVars_none hV
  have k0 := h0
  have lt0 : ∀ x ∈ p0, x.block < W.heap.size := by obtain ⟨m, hm⟩ := k0; exact DataW.trod_lt m _ _ _ hm
  obtain ⟨A0, n0, c0, rfl⟩ := okWide_slice Try.underlying27 (hval 0 27 v0 rfl rfl)
  obtain ⟨l0, w0, z0⟩ := recs_row h0 (fun _ => rfl)
  have k1 := h1
  have lt1 : ∀ x ∈ p1, x.block < W.heap.size := by obtain ⟨m, hm⟩ := k1; exact DataW.trod_lt m _ _ _ hm
  obtain ⟨x1, rfl, _, _, wx1⟩ := open_int Try.underlying3 (hval 1 3 v1 rfl rfl) h1
  have k2 := h2
  have lt2 : ∀ x ∈ p2, x.block < W.heap.size := by obtain ⟨m, hm⟩ := k2; exact DataW.trod_lt m _ _ _ hm
  obtain ⟨s2, rfl, _, _, ws2⟩ := ChangeMaps.open_string Try.underlying9 (hval 2 9 v2 rfl rfl) h2
  clear hA0 hval0
  refine (exactLeaseHas_w A0 n0 c0 l0 x1 s2 W w0 z0 (by unfold maxLen at ws2; omega)).mono fun e W' ⟨he, bel⟩ => ?_
  subst he
  exact ⟨_, rfl, _, _, _, [], _, [], hW', trodAll_mk1 (shut_bool Try.underlying4 _), (trodAll_cons_mk (Below.trod laidOut (by kernel_rfl) (of_decide_eq_true (by kernel_rfl)) k0 bel lt0) (trodAll_cons_mk (Below.trod laidOut (by kernel_rfl) (of_decide_eq_true (by kernel_rfl)) k1 bel lt1) (trodAll_cons_mk (Below.trod laidOut (by kernel_rfl) (of_decide_eq_true (by kernel_rfl)) k2 bel lt2) trodAll_mk0))), rfl, bel.frame _, fun h => by cases h⟩

theorem fnExactLeaseHas_holds : Rows.FnExactLeaseHasSaid :=
  OpenClaim.holds_of_wide 7 Try.f7 rfl rfl rfl rfl rfl rfl rfl ⟨rfl, rfl, rfl, rfl, rfl⟩ rfl rfl rfl rfl rfl (by kernel_rfl) Try.func7 (by kernel_rfl)
    (of_decide_eq_true (by kernel_rfl)) (by unfold Func.isWrapper; first | (rw [if_pos (by decide +kernel)]; kernel_rfl) | (rw [if_neg (by decide +kernel)]; exact ⟨rfl, rfl⟩))
    (fun os started H enc _ => fnExactLeaseHas_l os started H enc)
#print axioms fnExactLeaseHas_holds
end Go.Proofs.Ythkgechljfjpdaa
