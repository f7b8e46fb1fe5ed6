/- For every code that leases, a time, a name, an owner and a span are drawn from: who has taken a run works on it; two owners do not have one run; taking twice is taking once. No conditions. -/
import Derived.Test.YthkgechljfjpdaaLeaseTakeDraw
import Derived.Test.YthkgechljfjpdaaLeaseTakeSpec
import Derived.Test.YthkgechljfjpdaaLeaseTakeFacts
import Derived.Test.YthkgechljfjpdaaRecSame
import Derived.Test.YthkgechljfjpdaaLift
namespace Go.Proofs.Ythkgechljfjpdaa
open Go.ChangeShapes Go.WideShapes Go.ChangeAt Go.RowKit Go.Joins

theorem eqRL_self (l : List R3) : eqRL l l = true := decide_eq_true rfl
theorem own_count {w : World} {B : Nat} {e : TypeId} {A : Option Addr} {n c : Nat} {l : List R3} (h : w.ownsRow B e 3 (.slice A n c) n (l.flatMap encR)) : n = l.length := by
  have := h.1
  rw [flat_len (k := 3) (fun _ => rfl)] at this
  omega
theorem insR_sz {x : R3} {l : List R3} (hx : x.1.size ≤ 9223372036854775807) (hz : SzR l) : SzR (insR x l) := fun r hr => by
  rcases insR_mem.1 hr with rfl | h1
  · exact hx
  · exact hz r h1
theorem take_sz {l : List R3} {now : Int} {s : ByteArray} {o span : Int} {out : List R3} (h : takeR l now s o span = (out, true)) : SzR out := by
  obtain ⟨_, hv, _⟩ := take_open h
  intro r hr
  have := ((okAll_iff ltR_trans out).1 (leasesB_iff.1 hv).1).1 r hr
  simp [okL] at this
  have := (nameB_iff.1 this.1.1).2.1
  omega

set_option maxRecDepth 20000 in
set_option maxHeartbeats 2000000 in
theorem fnLeaseOne_w (A : Option Addr) (n c : Nat) (zs : List Int) (w : World) (h : IsRow .u8 w A n c zs) : Calls Try.prog 11 #[.slice A n c] w fun e w' => e = .returned (.bool true) ∧ Below w.heap.size w w' := by
  obtain ⟨l1, l2⟩ := row_len h
  by_cases hn : 1048576 < n
  · go_enter Try.func11, Try.ntmps11
    go_wp2_with fail
    go_ret
    exact ⟨rfl, Below.refl _ _⟩
  have HE := Lib.hid eqRL_self
  go_enter Try.func11, Try.ntmps11
  go_wp2_with fail
  refine (drawLeaseTake_c A n c zs _ h).mono ?_
  rintro e w1 ⟨B, m, d, l, now, s, o, span, rfl, hs, hm, h5, hs6, hb1⟩
  have hz := sz5_szR h5
  have hsz : s.size ≤ 9223372036854775807 := by omega
  obtain ⟨⟨lr, br⟩, hR⟩ : ∃ R, takeR l now s o span = R := ⟨_, rfl⟩
  have HR := Lib.hid hR
  clear hR
  go_wp2_with fail
  refine (implLeaseTake_c _ _ _ l now s o span _ hs hz hsz).mono ?_
  rintro e w2 ⟨AG, nG, cG, rfl, hG, hb2⟩
  rw [HR.out] at hG ⊢
  have hs := hs.bel hb2
  go_wp2_with fail
  refine (specLeaseTake_c _ _ _ l now s o span _ hs hz hsz).mono ?_
  rintro e w3 ⟨AW, nW, cW, rfl, hW, hb3⟩
  rw [HR.out] at hW ⊢
  have hs := hs.bel hb3
  have hG := own_bel hG hb3
  go_wp2_with fail
  refine (sameRecS_c _ _ _ _ _ _ lr lr _ (SlR.of_own hG) (SlR.of_own hW)).mono ?_
  rintro e w4 ⟨rfl, hb4⟩
  rw [HE.out lr]
  have hs := hs.bel hb4
  have hW := own_bel hW hb4
  have hG := own_bel hG hb4
  have hbA := bel_nx (bel_nx (bel_nx hb1 hb2) hb3) hb4
  cases br
  · go_wp2_with fail
    refine (sameRecS_c _ _ _ _ _ _ lr lr _ (SlR.of_own hG) (SlR.of_own hW)).mono ?_
    rintro e w5 ⟨rfl, hb5⟩
    rw [HE.out lr]
    go_wp2_with fail
    go_ret
    exact ⟨rfl, bel_nx hbA hb5⟩
  have hok := (take_open HR.out).1
  obtain ⟨_, ht, hnn, hoo, hss⟩ := takeOk_parts hok
  obtain ⟨t1, t2⟩ := timeB_iff.1 ht
  obtain ⟨o1, o2⟩ := inB_iff.1 hoo
  obtain ⟨s1, s2⟩ := inB_iff.1 hss
  have hzr := take_sz HR.out
  have hvl := (take_open HR.out).2.1
  clear hok ht hnn hoo hss
  have HV := Lib.hid hvl
  clear hvl
  have hne : o % 99 + 1 ≠ o := by omega
  have HN := Lib.hid (take_one HR.out hne)
  have b1 : (0 : Int) ≤ o % 99 := by omega
  have b2 : o % 99 < 99 := by omega
  have em : o.tmod 99 = o % 99 := Int.tmod_eq_emod_of_nonneg (by omega)
  clear hne
  go_wp2_with fail
  refine (implLeaseTake_c _ _ _ lr now s (o % 99 + 1) span _ (SlR.of_own hG) hzr hsz).mono ?_
  rintro e w5 ⟨AJ, nJ, cJ, rfl, hJ, hb5⟩
  rw [HN.out]
  go_wp2_with fail
  go_ret
  exact ⟨rfl, bel_nx hbA hb5⟩

set_option maxRecDepth 100000 in
theorem fnLeaseOne_l (os : Os) (started : os.Started) (H : Type) (enc : TypeId × Value → H) :
    ReturnsInHanded {} Try.checked os 11 .any (Rows.fnLeaseOneSpec.pre6 enc Try.prog Try.f11 Rows.fnLeaseOneRow.domain false) (Rows.fnLeaseOneSpec.post enc Try.prog Try.f11 false true false false) := by
  refine returnsInHanded_of_change (C := Try.checked) own started (by kernel_rfl) Try.func11
    (ChangeSpec.witness6 (enc := enc) (C := Try.checked) false ⟨#[], #[.slice none 0 0], []⟩ 8 (by kernel_rfl) (by kernel_rfl) (by kernel_rfl) (by kernel_rfl)) ?_
  intro W base args ds gs before hval0 hW hcnd _
  have hval : ∀ (j : Nat) t v, Try.f11.params[j]? = some t → args[j]? = some v → Value.okWide Try.prog W .any base t v := hval0
  have hW' := hW
  obtain ⟨p, q, hA0, hV, rfl, hfz, hnd⟩ := hW
  have hA : DataW.TrodAll enc Try.prog W 0 (fun _ => true) true Try.f11.params.toList args.toList ds p := hA0
  rw [Try.params11] at hA hval
  obtain ⟨v0, vs0, d0, ds0, p0, q0, hargs, rfl, rfl, h0, r0⟩ := trodAll_cons hA
  obtain ⟨rfl, rfl, rfl⟩ := trodAll_nil r0
  obtain rfl : args = #[v0] := by cases args; simp_all
  obtain ⟨rfl, rfl⟩ := trodVars_none hV
  have k0 := h0
  have lt0 : ∀ x ∈ p0, x.block < W.heap.size := by obtain ⟨m, hm⟩ := k0; exact DataW.trod_lt m _ _ _ hm
  obtain ⟨A0, n0, c0, rfl⟩ := okWide_slice Try.underlying22 (hval 0 22 v0 rfl rfl)
  obtain ⟨z0, w0⟩ := bytes_row h0 (fun _ => rfl)
  clear hA0 hval0
  refine (fnLeaseOne_w A0 n0 c0 z0 W w0).mono fun e W' ⟨he, bel⟩ => ?_
  subst he
  exact ⟨_, rfl, _, _, _, [], _, [], hW', trodAll_mk1 (shut_bool Try.underlying4 _), (trodAll_cons_mk (Below.trod laidOut (by kernel_rfl) (of_decide_eq_true (by kernel_rfl)) k0 bel lt0) trodAll_mk0), rfl, bel.frame _, fun h => by cases h⟩

theorem fnLeaseOne_holds : Rows.FnLeaseOneSaid :=
  OpenClaim.holds_of_wide 11 Try.f11 rfl rfl rfl rfl rfl rfl rfl ⟨rfl, rfl, rfl, rfl, rfl⟩ rfl rfl rfl rfl rfl (by kernel_rfl) Try.func11 (by kernel_rfl)
    (of_decide_eq_true (by kernel_rfl)) (by unfold Func.isWrapper; first | (rw [if_pos (by decide +kernel)]; kernel_rfl) | (rw [if_neg (by decide +kernel)]; exact ⟨rfl, rfl⟩))
    (fun os started H enc _ => fnLeaseOne_l os started H enc)
#print axioms fnLeaseOne_holds

end Go.Proofs.Ythkgechljfjpdaa
