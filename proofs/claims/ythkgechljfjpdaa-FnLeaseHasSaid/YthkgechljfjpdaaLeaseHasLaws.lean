/- For every code that leases, a time and a name are drawn from: who has a run has it until then. No conditions. -/
import Derived.Test.YthkgechljfjpdaaLeaseDraws
import Derived.Test.YthkgechljfjpdaaLeaseHas
import Derived.Test.YthkgechljfjpdaaLift
namespace Go.Proofs.Ythkgechljfjpdaa
open Go.ChangeShapes Go.WideShapes Go.ChangeAt Go.RowKit Go.Joins

theorem has_open {l : List R3} {t : Int} {s : ByteArray} (h : 0 < hasF l t s) : leasesB l = true ∧ timeB t = true ∧ nameB s = true ∧ ∃ r, l.find? (fun r => decide (r.1 = s)) = some r ∧ t < r.2.2 ∧ hasF l t s = r.2.1 := by
  unfold hasF at h ⊢
  split at h
  · rename_i hc
    rw [if_pos hc]
    refine ⟨hc.1, hc.2.1, hc.2.2, ?_⟩
    split at h
    · rename_i r hr
      split at h
      · rename_i ht
        exact ⟨r, hr, ht, by simp [ht]⟩
      · omega
    · omega
  · omega

theorem has_less {l : List R3} {t t' : Int} {s : ByteArray} (h : 0 < hasF l t s) (h0 : 0 ≤ t') (h1 : t' ≤ t) : hasF l t' s = hasF l t s := by
  obtain ⟨a, b, c, r, hr, ht, he⟩ := has_open h
  have hb := timeB_iff.1 b
  have hb' : timeB t' = true := timeB_iff.2 ⟨h0, by omega⟩
  rw [he]
  have ht' : t' < r.2.2 := by omega
  simp [hasF, a, hb', c, hr, ht']

set_option maxHeartbeats 1000000 in
theorem fnLeaseHasLess_w (A A' : Option Addr) (n c n' c' : Nat) (zs zs' : List Int) (w : World) (h : IsRow .u8 w A n c zs) (h' : IsRow .u8 w A' n' c' zs') : Calls Try.prog 6 #[.slice A n c, .slice A' n' c'] w fun e w' => e = .returned (.bool true) ∧ Below w.heap.size w w' := by
  obtain ⟨l1, l2⟩ := row_len h
  obtain ⟨l3, l4⟩ := row_len h'
  by_cases hn : 1048576 < n ∨ 1048576 < n'
  · by_cases hn1 : 1048576 < n
    all_goals
      go_enter Try.func6, Try.ntmps6
      go_wp2_with fail
      go_ret
      exact ⟨rfl, Below.refl _ _⟩
  · have g1 : (n : Int) ≤ 1048576 := by omega
    have g2 : (n' : Int) ≤ 1048576 := by omega
    clear hn
    go_enter Try.func6, Try.ntmps6
    go_wp2_with fail
    refine (drawLeaseHas_c A n c zs _ h).mono ?_
    rintro e w1 ⟨B, m, d, l, t, s, rfl, hs, hm, h5, hs6, hb1⟩
    have hz := sz5_szR h5
    obtain ⟨q, hq⟩ : ∃ q, hasF l t s = q := ⟨_, rfl⟩
    go_wp2_with fail
    refine (implLeaseHas_c _ _ _ l t s _ hs hz (by omega)).mono ?_
    rintro e w2 ⟨rfl, hb2⟩
    have hs2 := hs.bel hb2
    rw [hq]
    go_wp2_with fail
    refine (specLeaseHas_c _ _ _ l t s _ hs2 hz (by omega)).mono ?_
    rintro e w3 ⟨rfl, hb3⟩
    have hs3 := hs2.bel hb3
    rw [hq]
    have hbA := bel_nx (bel_nx hb1 hb2) hb3
    by_cases hq0 : 0 < q
    · obtain ⟨_, ht, _⟩ := has_open (l := l) (t := t) (s := s) (by rw [hq]; exact hq0)
      obtain ⟨t0, t1⟩ := timeB_iff.1 ht
      obtain ⟨t', ht'⟩ : ∃ t' : Int, t' = (n' : Int) % (t + 1) := ⟨_, rfl⟩
      have u0 : 0 ≤ t' := by rw [ht']; exact Int.emod_nonneg _ (by omega)
      have u1 : t' ≤ t := by have := Int.emod_lt_of_pos (n' : Int) (show 0 < t + 1 by omega); omega
      have HQ := Lib.hid ((has_less (l := l) (s := s) (by rw [hq]; exact hq0) u0 u1).trans hq)
      have em : (n' : Int).tmod (t + 1) = t' := by rw [ht', Int.tmod_eq_emod_of_nonneg (by omega)]
      have em2 : (n' : Int) % (t + 1) = t' := ht'.symm
      have e0 : ((t + 1) == 0) = false := by simp; omega
      have d0 : decide (q ≤ 0) = false := by simp; omega
      clear hq ht' ht hq0
      go_wp2_with fail
      refine (implLeaseHas_c _ _ _ l t' s _ hs3 hz (by omega)).mono ?_
      rintro e w4 ⟨rfl, hb4⟩
      rw [HQ.out]
      go_wp2_with fail
      go_ret
      exact ⟨rfl, bel_nx hbA hb4⟩
    · have d0 : decide (q ≤ 0) = true := by simp; omega
      clear hq
      go_wp2_with fail
      go_ret
      exact ⟨rfl, hbA⟩

set_option maxRecDepth 100000 in
theorem fnLeaseHasLess_l (os : Os) (started : os.Started) (H : Type) (enc : TypeId × Value → H) :
    ReturnsInHanded {} Try.checked os 6 .any (Rows.fnLeaseHasLessSpec.pre6 enc Try.prog Try.f6 Rows.fnLeaseHasLessRow.domain false) (Rows.fnLeaseHasLessSpec.post enc Try.prog Try.f6 false true false false) := by
  refine returnsInHanded_of_change (C := Try.checked) own started (by kernel_rfl) Try.func6
    (ChangeSpec.witness6 (enc := enc) (C := Try.checked) false ⟨#[], #[.slice none 0 0, .slice none 0 0], []⟩ 8 (by kernel_rfl) (by kernel_rfl) (by kernel_rfl) (by kernel_rfl)) ?_
  intro W base args ds gs before hval0 hW hcnd _
  have hval : ∀ (j : Nat) t v, Try.f6.params[j]? = some t → args[j]? = some v → Value.okWide Try.prog W .any base t v := hval0
  have hW' := hW
  obtain ⟨p, q, hA0, hV, rfl, hfz, hnd⟩ := hW
  have hA : DataW.TrodAll enc Try.prog W 0 (fun _ => true) true Try.f6.params.toList args.toList ds p := hA0
  rw [Try.params6] at hA hval
  obtain ⟨v0, vs0, d0, ds0, p0, q0, hargs, rfl, rfl, h0, r0⟩ := trodAll_cons hA
  obtain ⟨v1, vs1, d1, ds1, p1, q1, rfl, rfl, rfl, h1, r1⟩ := trodAll_cons r0
  obtain ⟨rfl, rfl, rfl⟩ := trodAll_nil r1
  obtain rfl : args = #[v0, v1] := by cases args; simp_all
  obtain ⟨rfl, rfl⟩ := trodVars_none hV
  have k0 := h0
  have lt0 : ∀ x ∈ p0, x.block < W.heap.size := by obtain ⟨m, hm⟩ := k0; exact DataW.trod_lt m _ _ _ hm
  obtain ⟨A0, n0, c0, rfl⟩ := okWide_slice Try.underlying22 (hval 0 22 v0 rfl rfl)
  obtain ⟨z0, w0⟩ := bytes_row h0 (fun _ => rfl)
  have k1 := h1
  have lt1 : ∀ x ∈ p1, x.block < W.heap.size := by obtain ⟨m, hm⟩ := k1; exact DataW.trod_lt m _ _ _ hm
  obtain ⟨A1, n1, c1, rfl⟩ := okWide_slice Try.underlying22 (hval 1 22 v1 rfl rfl)
  obtain ⟨z1, w1⟩ := bytes_row h1 (fun _ => rfl)
  clear hA0 hval0
  refine (fnLeaseHasLess_w A0 A1 n0 c0 n1 c1 z0 z1 W w0 w1).mono fun e W' ⟨he, bel⟩ => ?_
  subst he
  exact ⟨_, rfl, _, _, _, [], _, [], hW', trodAll_mk1 (shut_bool Try.underlying4 _), (trodAll_cons_mk (Below.trod laidOut (by kernel_rfl) (of_decide_eq_true (by kernel_rfl)) k0 bel lt0) (trodAll_cons_mk (Below.trod laidOut (by kernel_rfl) (of_decide_eq_true (by kernel_rfl)) k1 bel lt1) trodAll_mk0)), rfl, bel.frame _, fun h => by cases h⟩

theorem fnLeaseHasLess_holds : Rows.FnLeaseHasLessSaid :=
  OpenClaim.holds_of_wide 6 Try.f6 rfl rfl rfl rfl rfl rfl rfl ⟨rfl, rfl, rfl, rfl, rfl⟩ rfl rfl rfl rfl rfl (by kernel_rfl) Try.func6 (by kernel_rfl)
    (of_decide_eq_true (by kernel_rfl)) (by unfold Func.isWrapper; first | (rw [if_pos (by decide +kernel)]; kernel_rfl) | (rw [if_neg (by decide +kernel)]; exact ⟨rfl, rfl⟩))
    (fun os started H enc _ => fnLeaseHasLess_l os started H enc)
#print axioms fnLeaseHasLess_holds
end Go.Proofs.Ythkgechljfjpdaa
