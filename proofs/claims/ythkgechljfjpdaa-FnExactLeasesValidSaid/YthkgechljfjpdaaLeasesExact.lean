/- For every slice of leases the program's LeasesValid returns what the reference's returns. No conditions. -/
import Derived.Test.YthkgechljfjpdaaLeases
import Derived.Test.YthkgechljfjpdaaRecS
import Derived.Test.YthkgechljfjpdaaRecRow
namespace Go.Proofs.Ythkgechljfjpdaa
open Go.ChangeShapes Go.WideShapes Go.ChangeAt Go.RowKit Go.Joins

theorem eqRL_self (l : List R3) : eqRL l l = true := decide_eq_true rfl

set_option maxHeartbeats 400000 in
theorem exactLeasesValid_w (A : Option Addr) (n c : Nat) (l : List R3) (w : World) (h : SlR w A n c l) (hz : SzR l) : Calls Try.prog 5 #[.slice A n c] w fun e w' => e = .returned (.bool true) ∧ Below w.heap.size w w' := by
  have HE := Lib.hid (eqRL_self l)
  go_enter Try.func5, Try.ntmps5
  go_wp2_with fail
  refine (szRecS_c A n c l _ 1048576 h hz (by omega) (by omega)).mono ?_
  rintro e w0 ⟨r, rfl, hr, hb0⟩
  have h := h.bel hb0
  rcases hr with hr | ⟨hr0, hr1, hr2⟩
  · go_wp2_with fail
    go_ret
    exact ⟨rfl, hb0⟩
  · go_wp2_with fail
    refine (toRecS_c _ _ _ l _ h (by omega)).mono ?_
    rintro e w1 ⟨A1, c1, rfl, hown1, hb1⟩
    go_wp2_with fail
    refine (specLeasesValid_c _ _ _ l _ (SlR.of_own hown1) hz).mono ?_
    rintro e w2 ⟨rfl, hb2⟩
    go_wp2_with fail
    have h2 := (h.bel hb1).bel hb2
    refine (toRecS_c _ _ _ l _ h2 (by omega)).mono ?_
    rintro e w3 ⟨A3, c3, rfl, hown3, hb3⟩
    go_wp2_with fail
    refine (implLeasesValid_c _ _ _ l _ (SlR.of_own hown3) hz).mono ?_
    rintro e w4 ⟨rfl, hb4⟩
    go_wp2_with fail
    refine (toRecS_c _ _ _ l _ ((h2.bel hb3).bel hb4) (by omega)).mono ?_
    rintro e w5 ⟨A5, c5, rfl, hown5, hb5⟩
    go_wp2_with fail
    refine (eqRecS_c _ _ _ _ _ _ l l _ (((SlR.of_own hown3).bel hb4).bel hb5) (SlR.of_own hown5)).mono ?_
    rintro e w6 ⟨rfl, hb6⟩
    rw [HE.out]
    go_wp2_with fail
    go_ret
    exact ⟨rfl, bel_nx (bel_nx (bel_nx (bel_nx (bel_nx (bel_nx hb0 hb1) hb2) hb3) hb4) hb5) hb6⟩

set_option maxRecDepth 100000 in
theorem fnExactLeasesValid_l (os : Os) (started : os.Started) (H : Type) (enc : TypeId × Value → H) :
    ReturnsInHanded {} Try.checked os 5 .any (Rows.fnExactLeasesValidSpec.pre6 enc Try.prog Try.f5 Rows.fnExactLeasesValidRow.domain false) (Rows.fnExactLeasesValidSpec.post enc Try.prog Try.f5 false true false false) := by
  refine returnsInHanded_of_change (C := Try.checked) own started (by kernel_rfl) Try.func5
    (ChangeSpec.witness6 (enc := enc) (C := Try.checked) false ⟨#[], #[.slice none 0 0], []⟩ 8 (by kernel_rfl) (by kernel_rfl) (by kernel_rfl) (by kernel_rfl)) ?_
  intro W base args ds gs before hval0 hW hcnd _
  have hval : ∀ (j : Nat) t v, Try.f5.params[j]? = some t → args[j]? = some v → Value.okWide Try.prog W .any base t v := hval0
  have hW' := hW
  obtain ⟨p, q, hA0, hV, rfl, hfz, hnd⟩ := hW
  have hA : DataW.TrodAll enc Try.prog W 0 (fun _ => true) true Try.f5.params.toList args.toList ds p := hA0
  rw [Try.params5] at hA hval
  obtain ⟨v0, vs0, d0, ds0, p0, q0, hargs, rfl, rfl, h0, r0⟩ := trodAll_cons hA
  obtain ⟨rfl, rfl, rfl⟩ := trodAll_nil r0
  obtain rfl : args = #[v0] := by cases args; simp_all
  obtain ⟨rfl, rfl⟩ := trodVars_none hV
  have k0 := h0
  have lt0 : ∀ x ∈ p0, x.block < W.heap.size := by obtain ⟨m, hm⟩ := k0; exact DataW.trod_lt m _ _ _ hm
  obtain ⟨A0, n0, c0, rfl⟩ := okWide_slice Try.underlying27 (hval 0 27 v0 rfl rfl)
  obtain ⟨l0, w0, z0⟩ := recs_row h0 (fun _ => rfl)
  clear hA0 hval0
  refine (exactLeasesValid_w A0 n0 c0 l0 W w0 z0).mono fun e W' ⟨he, bel⟩ => ?_
  subst he
  exact ⟨_, rfl, _, _, _, [], _, [], hW', trodAll_mk1 (shut_bool Try.underlying4 _), (trodAll_cons_mk (Below.trod laidOut (by kernel_rfl) (of_decide_eq_true (by kernel_rfl)) k0 bel lt0) trodAll_mk0), rfl, bel.frame _, fun h => by cases h⟩

theorem fnExactLeasesValid_holds : Rows.FnExactLeasesValidSaid :=
  OpenClaim.holds_of_wide 5 Try.f5 rfl rfl rfl rfl rfl rfl rfl ⟨rfl, rfl, rfl, rfl, rfl⟩ rfl rfl rfl rfl rfl (by kernel_rfl) Try.func5 (by kernel_rfl)
    (of_decide_eq_true (by kernel_rfl)) (by unfold Func.isWrapper; first | (rw [if_pos (by decide +kernel)]; kernel_rfl) | (rw [if_neg (by decide +kernel)]; exact ⟨rfl, rfl⟩))
    (fun os started H enc _ => fnExactLeasesValid_l os started H enc)
#print axioms fnExactLeasesValid_holds
end Go.Proofs.Ythkgechljfjpdaa
