/- For every code that leases, a name and an owner are drawn from: what was given back is free. No conditions. -/
import Derived.Test.YthkgechljfjpdaaLeaseDraws
import Derived.Test.YthkgechljfjpdaaLeaseGive2
import Derived.Test.YthkgechljfjpdaaLeasesPlain
import Derived.Test.YthkgechljfjpdaaRecSame
import Derived.Test.YthkgechljfjpdaaLift
namespace Go.Proofs.Ythkgechljfjpdaa
open Go.ChangeShapes Go.WideShapes Go.ChangeAt Go.RowKit Go.Joins

theorem eqRL_self (l : List R3) : eqRL l l = true := decide_eq_true rfl

theorem give_mem {l : List R3} {s : ByteArray} {o : Int} {lr : List R3} (h : giveR l s o = (lr, true)) : leasesB l = true ∧ nameB s = true ∧ (∀ r ∈ lr, r.1 ≠ s) ∧ lr.Sublist l ∧ lr.length + 1 = l.length := by
  have hv : leasesB l = true := by
    cases hv : leasesB l
    · rw [giveR_no1 hv] at h; cases h
    · rfl
  rcases atR_cases l s with ⟨_, hall⟩ | ⟨k, r, ha, hk, hr, H⟩
  · rw [giveR_no2 hall] at h; cases h
  by_cases ho : r.2.1 = o
  · rw [giveR_yes hv ha hk hr H ho] at h
    cases h
    have hl : k < l.length := (List.getElem?_eq_some_iff.1 hk).1
    have he : l[k] = r := (List.getElem?_eq_some_iff.1 hk).2
    have hp := (okAll_iff ltR_trans l).1 (leasesB_iff.1 hv).1
    have hs : (l.take k ++ l.drop (k + 1)).Sublist l := by
      have h1 : (l.take k ++ l.drop (k + 1)).Sublist (l.take k ++ l.drop k) := List.Sublist.append (List.Sublist.refl _) (by rw [← List.drop_drop]; exact List.drop_sublist _ _)
      rwa [List.take_append_drop] at h1
    refine ⟨hv, ?_, ?_, hs, by simp; omega⟩
    · have := hp.1 r (List.mem_of_getElem? hk)
      simp [okL] at this
      rw [← hr]; exact this.1.1
    · intro x hx
      rcases List.mem_append.1 hx with h1 | h1
      · obtain ⟨j, hj, rfl⟩ := List.getElem_of_mem h1
        simp at hj
        rw [List.getElem_take]
        exact H j (by omega) _ (List.getElem?_eq_getElem (by omega))
      · obtain ⟨j, hj, rfl⟩ := List.getElem_of_mem h1
        simp at hj
        rw [List.getElem_drop]
        have h2 := List.pairwise_iff_getElem.1 hp.2 k (k + 1 + j) hl (by omega) (by omega)
        rw [he] at h2
        intro e
        exact ltS_ne h2 (by rw [hr, e])
  · rw [giveR_no3 hk hr H ho] at h; cases h

theorem give_facts {l : List R3} {s : ByteArray} {o : Int} {lr : List R3} (h : giveR l s o = (lr, true)) : leasesB lr = true ∧ nameB s = true ∧ (∀ t, timeB t = true → hasF lr t s = 0) ∧ giveR lr s o = ([], false) ∧ lr.length + 1 = l.length := by
  obtain ⟨a, b, c, d, e⟩ := give_mem h
  have hv : leasesB lr = true := by
    rw [leasesB_iff] at a ⊢
    exact ⟨okAll_sub ltR_trans d a.1, by omega⟩
  exact ⟨hv, b, fun t ht => hasF_none hv ht b c, giveR_no2 c, e⟩
set_option maxRecDepth 20000 in
set_option maxHeartbeats 1000000 in
theorem fnLeaseGive_w (A A' : Option Addr) (n c n' c' : Nat) (zs zs' : List Int) (w : World) (h : IsRow .u8 w A n c zs) (h' : IsRow .u8 w A' n' c' zs') : Calls Try.prog 8 #[.slice A n c, .slice A' n' c'] w fun e w' => e = .returned (.bool true) ∧ Below w.heap.size w w' := by
  obtain ⟨l1, l2⟩ := row_len h
  obtain ⟨l3, l4⟩ := row_len h'
  by_cases hn : 1048576 < n ∨ 1048576 < n'
  · by_cases hn1 : 1048576 < n
    all_goals
      go_enter Try.func8, Try.ntmps8
      go_wp2_with fail
      go_ret
      exact ⟨rfl, Below.refl _ _⟩
  have g1 : (n : Int) ≤ 1048576 := by omega
  have g2 : (n' : Int) ≤ 1048576 := by omega
  clear hn
  have HE := Lib.hid eqRL_self
  go_enter Try.func8, Try.ntmps8
  go_wp2_with fail
  refine (drawLeaseGive_c A n c zs _ h).mono ?_
  rintro e w1 ⟨B, m, d, l, s, o, rfl, hs, hm, h5, hs6, hb1⟩
  have hz := sz5_szR h5
  have hml := hs.len
  obtain ⟨⟨lr, br⟩, hR⟩ : ∃ R, giveR l s o = R := ⟨_, rfl⟩
  have HR := Lib.hid hR
  have HM := Lib.hid hml
  clear hR hml
  go_wp2_with fail
  refine (implLeaseGive_c _ _ _ l s o _ hs hz (by omega)).mono ?_
  rintro e w2 ⟨AG, nG, cG, rfl, hG, hb2⟩
  rw [HR.out] at hG ⊢
  have hs := hs.bel hb2
  go_wp2_with fail
  refine (specLeaseGive_c _ _ _ l s o _ hs hz (by omega)).mono ?_
  rintro e w3 ⟨AW, nW, cW, rfl, hW, hb3⟩
  rw [HR.out] at hW ⊢
  have hG := own_bel hG hb3
  go_wp2_with fail
  refine (sameRecS_c _ _ _ _ _ _ lr lr _ (SlR.of_own hG) (SlR.of_own hW)).mono ?_
  rintro e w4 ⟨rfl, hb4⟩
  rw [HE.out lr]
  have hW := own_bel hW hb4
  have hG := own_bel hG hb4
  have hbA := bel_nx (bel_nx (bel_nx hb1 hb2) hb3) hb4
  cases br
  · go_wp2_with fail
    refine (sameRecS_c _ _ _ _ _ _ lr lr _ (SlR.of_own hG) (SlR.of_own hW)).mono ?_
    rintro e w5 ⟨rfl, hb5⟩
    rw [HE.out lr]
    go_wp2_with fail
    go_ret
    exact ⟨rfl, bel_nx hbA hb5⟩
  · have hF := give_facts HR.out
    have hzr : SzR lr := fun r hr => hz r ((give_mem HR.out).2.2.2.1.subset hr)
    have hnG : nG = lr.length := by
      have h3 : (lr.flatMap encR).length = nG * 3 := hG.1
      rw [flat_len (k := 3) (fun _ => rfl)] at h3
      omega
    have hnm : nG + 1 = m := by have := hF.2.2.2.2; have := HM.out; omega
    have HF := Lib.hid hF
    subst hnm
    clear hF hnG
    go_wp2_with fail
    refine (implLeaseGive_c _ _ _ lr s o _ (SlR.of_own hG) hzr (by omega)).mono ?_
    rintro e w5 ⟨AJ, nJ, cJ, rfl, hJ, hb5⟩
    rw [HF.out.2.2.2.1]
    have hG := own_bel hG hb5
    go_wp2_with fail
    refine (implLeasesValid_c _ _ _ lr _ (SlR.of_own hG) hzr).mono ?_
    rintro e w6 ⟨rfl, hb6⟩
    rw [HF.out.1]
    have hG := own_bel hG hb6
    obtain ⟨t, ht⟩ : ∃ t : Int, t = (n' : Int) % 10000 := ⟨_, rfl⟩
    have t0 : 0 ≤ t := by omega
    have t1 : t ≤ 9999 := by omega
    have em : (n' : Int).tmod 10000 = t := by rw [ht, Int.tmod_eq_emod_of_nonneg (by omega)]
    have em2 : (n' : Int) % 10000 = t := ht.symm
    clear ht
    go_wp2_with fail
    refine (implLeaseHas_c _ _ _ lr t s _ (SlR.of_own hG) hzr (by omega)).mono ?_
    rintro e w7 ⟨rfl, hb7⟩
    rw [HF.out.2.2.1 t (timeB_iff.2 ⟨t0, t1⟩)]
    go_wp2_with fail
    go_ret
    exact ⟨rfl, bel_nx (bel_nx (bel_nx hbA hb5) hb6) hb7⟩

set_option maxRecDepth 100000 in
theorem fnLeaseGive_l (os : Os) (started : os.Started) (H : Type) (enc : TypeId × Value → H) :
    ReturnsInHanded {} Try.checked os 8 .any (Rows.fnLeaseGiveSpec.pre6 enc Try.prog Try.f8 Rows.fnLeaseGiveRow.domain false) (Rows.fnLeaseGiveSpec.post enc Try.prog Try.f8 false true false false) := by
  refine returnsInHanded_of_change (C := Try.checked) own started (by kernel_rfl) Try.func8
    (ChangeSpec.witness6 (enc := enc) (C := Try.checked) false ⟨#[], #[.slice none 0 0, .slice none 0 0], []⟩ 8 (by kernel_rfl) (by kernel_rfl) (by kernel_rfl) (by kernel_rfl)) ?_
  intro W base args ds gs before hval0 hW hcnd _
  have hval : ∀ (j : Nat) t v, Try.f8.params[j]? = some t → args[j]? = some v → Value.okWide Try.prog W .any base t v := hval0
  have hW' := hW
  obtain ⟨p, q, hA0, hV, rfl, hfz, hnd⟩ := hW
  have hA : DataW.TrodAll enc Try.prog W 0 (fun _ => true) true Try.f8.params.toList args.toList ds p := hA0
  rw [Try.params8] at hA hval
  obtain ⟨v0, vs0, d0, ds0, p0, q0, hargs, rfl, rfl, h0, r0⟩ := trodAll_cons hA
  obtain ⟨v1, vs1, d1, ds1, p1, q1, rfl, rfl, rfl, h1, r1⟩ := trodAll_cons r0
  obtain ⟨rfl, rfl, rfl⟩ := trodAll_nil r1
  obtain rfl : args = #[v0, v1] := by cases args; simp_all
  obtain ⟨rfl, rfl⟩ := trodVars_none hV
  have k0 := h0
  have lt0 : ∀ x ∈ p0, x.block < W.heap.size := by obtain ⟨m, hm⟩ := k0; exact DataW.trod_lt m _ _ _ hm
  obtain ⟨A0, n0, c0, rfl⟩ := okWide_slice Try.underlying22 (hval 0 22 v0 rfl rfl)
  obtain ⟨z0, w0⟩ := bytes_row h0 (fun _ => rfl)
  have k1 := h1
  have lt1 : ∀ x ∈ p1, x.block < W.heap.size := by obtain ⟨m, hm⟩ := k1; exact DataW.trod_lt m _ _ _ hm
  obtain ⟨A1, n1, c1, rfl⟩ := okWide_slice Try.underlying22 (hval 1 22 v1 rfl rfl)
  obtain ⟨z1, w1⟩ := bytes_row h1 (fun _ => rfl)
  clear hA0 hval0
  refine (fnLeaseGive_w A0 A1 n0 c0 n1 c1 z0 z1 W w0 w1).mono fun e W' ⟨he, bel⟩ => ?_
  subst he
  exact ⟨_, rfl, _, _, _, [], _, [], hW', trodAll_mk1 (shut_bool Try.underlying4 _), (trodAll_cons_mk (Below.trod laidOut (by kernel_rfl) (of_decide_eq_true (by kernel_rfl)) k0 bel lt0) (trodAll_cons_mk (Below.trod laidOut (by kernel_rfl) (of_decide_eq_true (by kernel_rfl)) k1 bel lt1) trodAll_mk0)), rfl, bel.frame _, fun h => by cases h⟩

theorem fnLeaseGive_holds : Rows.FnLeaseGiveSaid :=
  OpenClaim.holds_of_wide 8 Try.f8 rfl rfl rfl rfl rfl rfl rfl ⟨rfl, rfl, rfl, rfl, rfl⟩ rfl rfl rfl rfl rfl (by kernel_rfl) Try.func8 (by kernel_rfl)
    (of_decide_eq_true (by kernel_rfl)) (by unfold Func.isWrapper; first | (rw [if_pos (by decide +kernel)]; kernel_rfl) | (rw [if_neg (by decide +kernel)]; exact ⟨rfl, rfl⟩))
    (fun os started H enc _ => fnLeaseGive_l os started H enc)
#print axioms fnLeaseGive_holds
end Go.Proofs.Ythkgechljfjpdaa
