/- For every code that leases, a time and a name are drawn from: a lease ends at its time. No conditions. -/
import Derived.Test.YthkgechljfjpdaaLeaseHasLaws
import Derived.Test.YthkgechljfjpdaaLeaseTake
import Derived.Test.YthkgechljfjpdaaLeaseTakeFacts
import Derived.Test.YthkgechljfjpdaaLift
namespace Go.Proofs.Ythkgechljfjpdaa
open Go.ChangeShapes Go.WideShapes Go.ChangeAt Go.RowKit Go.Joins

theorem has_at {l : List R3} {t : Int} {s : ByteArray} (h : 0 < hasF l t s) : ∃ (k : Nat) (u : Int), l[k]? = some (s, hasF l t s, u) ∧ t < u ∧ (∀ j, j < k → ∀ r, l[j]? = some r → r.1 ≠ s) ∧ atR l s = k ∧ u ≤ 19999 ∧ 0 ≤ u ∧ hasF l t s ≤ 99 := by
  obtain ⟨a, b, c, _⟩ := has_open h
  rcases atR_cases l s with ⟨_, hall⟩ | ⟨k, ⟨s', x, y⟩, ha, hk, hr, H⟩
  · rw [hasF_none a b c hall] at h; omega
  · have hv := hasF_some a b c hk hr H
    by_cases hy : t < y
    · rw [if_pos hy] at hv
      have hm := ((okAll_iff ltR_trans l).1 (leasesB_iff.1 a).1).1 _ (List.mem_of_getElem? hk)
      simp [okL] at hm
      have hr' : s' = s := hr
      refine ⟨k, y, by rw [hk, hv, hr'], hy, H, ha, hm.2.2, hm.2.1, ?_⟩
      rw [hv]; exact hm.1.2.2
    · rw [if_neg hy] at hv; omega

theorem has_end {l : List R3} {t : Int} {s : ByteArray} (h : 0 < hasF l t s) {k : Nat} {u o' : Int} (hk : l[k]? = some (s, hasF l t s, u)) (H : ∀ j, j < k → ∀ r, l[j]? = some r → r.1 ≠ s) (ha : atR l s = k) (hu : timeB u = true) (h1 : 1 ≤ o') (h2 : o' ≤ 99) :
    hasF l u s = 0 ∧ (takeR l u s o' 5).2 = true := by
  obtain ⟨a, b, c, _⟩ := has_open h
  have hu' := timeB_iff.1 hu
  refine ⟨by rw [hasF_some a hu c hk rfl H, if_neg (Int.lt_irrefl _)], ?_⟩
  have hok : takeOk l u s o' 5 = true := by simp [takeOk, a, hu, c, inB]; omega
  rw [takeR_old hok ha hk rfl H (Int.lt_irrefl _)]
  have hv : leasesB (l.set k (s, o', u + 5)) = true := set_valid a hk rfl (by simp [okL, c]; omega)
  rw [finR_yes hv]

set_option maxRecDepth 20000 in
set_option maxHeartbeats 2000000 in
theorem fnLeaseHas_w (A : Option Addr) (n c : Nat) (zs : List Int) (w : World) (h : IsRow .u8 w A n c zs) : Calls Try.prog 10 #[.slice A n c] w fun e w' => e = .returned (.bool true) ∧ Below w.heap.size w w' := by
  obtain ⟨l1, l2⟩ := row_len h
  by_cases hn : 1048576 < n
  · go_enter Try.func10, Try.ntmps10
    go_wp2_with fail
    go_ret
    exact ⟨rfl, Below.refl _ _⟩
  go_enter Try.func10, Try.ntmps10
  go_wp2_with fail
  refine (drawLeaseHas_c A n c zs _ h).mono ?_
  rintro e w1 ⟨B, m, d, l, t, s, rfl, hs, hm, h5, hs6, hb1⟩
  have hz := sz5_szR h5
  have hsz : s.size ≤ 9223372036854775807 := by omega
  obtain ⟨q, hq⟩ : ∃ q, hasF l t s = q := ⟨_, rfl⟩
  go_wp2_with fail
  refine (implLeaseHas_c _ _ _ l t s _ hs hz hsz).mono ?_
  rintro e w2 ⟨rfl, hb2⟩
  have hs2 := hs.bel hb2
  rw [hq]
  go_wp2_with fail
  refine (specLeaseHas_c _ _ _ l t s _ hs2 hz hsz).mono ?_
  rintro e w3 ⟨rfl, hb3⟩
  have hs3 := hs2.bel hb3
  rw [hq]
  have hbA := bel_nx (bel_nx hb1 hb2) hb3
  by_cases hq0 : 0 < q
  · have hpos : 0 < hasF l t s := by rw [hq]; exact hq0
    obtain ⟨k, u, hk, hu, H, ha, hu1, hu2, hq9⟩ := has_at hpos
    rw [hq] at hq9
    have hcap := hs3.cap
    have hmax := hs3.max
    have hkm : k < m := by rw [← hs3.len]; exact (List.getElem?_eq_some_iff.1 hk).1
    have HE := Lib.hid (fun o' hu' h1 h2 => has_end hpos (o' := o') hk H ha hu' h1 h2)
    have HK := Lib.hid (hq ▸ hk : l[k]? = some (s, q, u))
    have HH := Lib.hid H
    have d0 : decide (q ≤ 0) = false := by simp; omega
    clear hpos hk H ha hq
    go_wp2_with fail
    go_loop [8] (fun i => ∃ j : Nat, j ≤ k ∧ i = .int .i64 j) (fun i => k + 1 - (intOf i).toNat)
    case atStart => exact ⟨0, Nat.zero_le _, rfl⟩
    case round =>
      obtain ⟨j, hj, rfl⟩ := hrel
      have hjm : j < m := by omega
      obtain ⟨b, off, s', x, y, rfl, hx, hc0, hc1, hc2⟩ := SlR.get hs3 hjm
      have i0 : (0 : Int) ≤ (j : Int) := by omega
      have i1 : (j : Int) < (m : Int) := by omega
      by_cases hjk : j < k
      · have e1 : (s'.toList == s.toList) = false := beqS_no (HH.out j hjk _ hx)
        clear hx
        go_wp2_with fail
        go_round
        case rel => exact ⟨j + 1, by omega, by go_num⟩
        case measure => simp [intOf]; omega
      · obtain rfl : j = k := by omega
        rw [HK.out] at hx
        cases hx
        have e1 : (s.toList == s.toList) = true := by simp
        have b1 : (0 : Int) ≤ q % 99 := by omega
        have b2 : q % 99 < 99 := by omega
        have em : q.tmod 99 = q % 99 := Int.tmod_eq_emod_of_nonneg (by omega)
        have eq1 : (q == q) = true := by simp
        have dt : decide (t < u) = true := decide_eq_true hu
        go_wp2_with fail
        refine (implLeaseTake_c _ _ _ l u s (q % 99 + 1) 5 _ hs3 hz hsz).mono ?_
        rintro e w5 ⟨AJ, nJ, cJ, rfl, hJ, hb5⟩
        have hs5 := hs3.bel hb5
        have hc1' := cell_later hb5 hc1
        by_cases hu9 : 9999 < u
        · have du : decide (9999 < u) = true := decide_eq_true hu9
          go_wp2_with fail
          go_ret
          exact ⟨rfl, bel_nx hbA hb5⟩
        · have du : decide (9999 < u) = false := decide_eq_false hu9
          obtain ⟨f1, f2⟩ := HE.out (q % 99 + 1) (timeB_iff.2 ⟨hu2, by omega⟩) (by omega) (by omega)
          rw [f2]
          have HF1 := Lib.hid f1
          clear f1 f2
          go_wp2_with fail
          refine (implLeaseHas_c _ _ _ l u s _ hs5 hz hsz).mono ?_
          rintro e w6 ⟨rfl, hb6⟩
          rw [HF1.out]
          go_wp2_with fail
          go_ret
          exact ⟨rfl, bel_nx (bel_nx hbA hb5) hb6⟩
  · have d0 : decide (q ≤ 0) = true := by simp; omega
    clear hq
    go_wp2_with fail
    go_ret
    exact ⟨rfl, hbA⟩

set_option maxRecDepth 100000 in
theorem fnLeaseHas_l (os : Os) (started : os.Started) (H : Type) (enc : TypeId × Value → H) :
    ReturnsInHanded {} Try.checked os 10 .any (Rows.fnLeaseHasSpec.pre6 enc Try.prog Try.f10 Rows.fnLeaseHasRow.domain false) (Rows.fnLeaseHasSpec.post enc Try.prog Try.f10 false true false false) := by
  refine returnsInHanded_of_change (C := Try.checked) own started (by kernel_rfl) Try.func10
    (ChangeSpec.witness6 (enc := enc) (C := Try.checked) false ⟨#[], #[.slice none 0 0], []⟩ 8 (by kernel_rfl) (by kernel_rfl) (by kernel_rfl) (by kernel_rfl)) ?_
  intro W base args ds gs before hval0 hW hcnd _
  have hval : ∀ (j : Nat) t v, Try.f10.params[j]? = some t → args[j]? = some v → Value.okWide Try.prog W .any base t v := hval0
  have hW' := hW
  obtain ⟨p, q, hA0, hV, rfl, hfz, hnd⟩ := hW
  have hA : DataW.TrodAll enc Try.prog W 0 (fun _ => true) true Try.f10.params.toList args.toList ds p := hA0
  rw [Try.params10] at hA hval
  obtain ⟨v0, vs0, d0, ds0, p0, q0, hargs, rfl, rfl, h0, r0⟩ := trodAll_cons hA
  obtain ⟨rfl, rfl, rfl⟩ := trodAll_nil r0
  obtain rfl : args = #[v0] := by cases args; simp_all
  obtain ⟨rfl, rfl⟩ := trodVars_none hV
  have k0 := h0
  have lt0 : ∀ x ∈ p0, x.block < W.heap.size := by obtain ⟨m, hm⟩ := k0; exact DataW.trod_lt m _ _ _ hm
  obtain ⟨A0, n0, c0, rfl⟩ := okWide_slice Try.underlying22 (hval 0 22 v0 rfl rfl)
  obtain ⟨z0, w0⟩ := bytes_row h0 (fun _ => rfl)
  clear hA0 hval0
  refine (fnLeaseHas_w A0 n0 c0 z0 W w0).mono fun e W' ⟨he, bel⟩ => ?_
  subst he
  exact ⟨_, rfl, _, _, _, [], _, [], hW', trodAll_mk1 (shut_bool Try.underlying4 _), (trodAll_cons_mk (Below.trod laidOut (by kernel_rfl) (of_decide_eq_true (by kernel_rfl)) k0 bel lt0) trodAll_mk0), rfl, bel.frame _, fun h => by cases h⟩

theorem fnLeaseHas_holds : Rows.FnLeaseHasSaid :=
  OpenClaim.holds_of_wide 10 Try.f10 rfl rfl rfl rfl rfl rfl rfl ⟨rfl, rfl, rfl, rfl, rfl⟩ rfl rfl rfl rfl rfl (by kernel_rfl) Try.func10 (by kernel_rfl)
    (of_decide_eq_true (by kernel_rfl)) (by unfold Func.isWrapper; first | (rw [if_pos (by decide +kernel)]; kernel_rfl) | (rw [if_neg (by decide +kernel)]; exact ⟨rfl, rfl⟩))
    (fun os started H enc _ => fnLeaseHas_l os started H enc)
#print axioms fnLeaseHas_holds

end Go.Proofs.Ythkgechljfjpdaa
