/- For every code that leases, a time, a name, an owner and a span are drawn from: who has taken a run works on it; two owners do not have one run; taking twice is taking once. No conditions. -/
import Derived.Test.YthkgechljfjpdaaLeaseTakeDraw
import Derived.Test.YthkgechljfjpdaaLeaseTakeSpec
import Derived.Test.YthkgechljfjpdaaLeaseTakeFacts
import Derived.Test.YthkgechljfjpdaaRecSame
import Derived.Test.YthkgechljfjpdaaLift
namespace Go.Proofs.Ythkgechljfjpdaa
open Go.ChangeShapes Go.WideShapes Go.ChangeAt Go.RowKit Go.Joins

theorem eqRL_self (l : List R3) : eqRL l l = true := decide_eq_true rfl
theorem own_count {w : World} {B : Nat} {e : TypeId} {A : Option Addr} {n c : Nat} {l : List R3} (h : w.ownsRow B e 3 (.slice A n c) n (l.flatMap encR)) : n = l.length := by
  have := h.1
  rw [flat_len (k := 3) (fun _ => rfl)] at this
  omega
theorem insR_sz {x : R3} {l : List R3} (hx : x.1.size ≤ 9223372036854775807) (hz : SzR l) : SzR (insR x l) := fun r hr => by
  rcases insR_mem.1 hr with rfl | h1
  · exact hx
  · exact hz r h1
theorem take_sz {l : List R3} {now : Int} {s : ByteArray} {o span : Int} {out : List R3} (h : takeR l now s o span = (out, true)) : SzR out := by
  obtain ⟨_, hv, _⟩ := take_open h
  intro r hr
  have := ((okAll_iff ltR_trans out).1 (leasesB_iff.1 hv).1).1 r hr
  simp [okL] at this
  have := (nameB_iff.1 this.1.1).2.1
  omega

set_option maxRecDepth 20000 in
set_option maxHeartbeats 2000000 in
theorem fnLeaseTake_w (A A' : Option Addr) (n c n' c' : Nat) (zs zs' : List Int) (w : World) (h : IsRow .u8 w A n c zs) (h' : IsRow .u8 w A' n' c' zs') : Calls Try.prog 14 #[.slice A n c, .slice A' n' c'] w fun e w' => e = .returned (.bool true) ∧ Below w.heap.size w w' := by
  obtain ⟨l1, l2⟩ := row_len h
  obtain ⟨l3, l4⟩ := row_len h'
  by_cases hn : 1048576 < n ∨ 1048576 < n'
  · by_cases hn1 : 1048576 < n
    all_goals
      go_enter Try.func14, Try.ntmps14
      go_wp2_with fail
      go_ret
      exact ⟨rfl, Below.refl _ _⟩
  have g1 : (n : Int) ≤ 1048576 := by omega
  have g2 : (n' : Int) ≤ 1048576 := by omega
  clear hn
  have HE := Lib.hid eqRL_self
  go_enter Try.func14, Try.ntmps14
  go_wp2_with fail
  refine (drawLeaseTake_c A n c zs _ h).mono ?_
  rintro e w1 ⟨B, m, d, l, now, s, o, span, rfl, hs, hm, h5, hs6, hb1⟩
  have hz := sz5_szR h5
  have hsz : s.size ≤ 9223372036854775807 := by omega
  obtain ⟨⟨lr, br⟩, hR⟩ : ∃ R, takeR l now s o span = R := ⟨_, rfl⟩
  have HR := Lib.hid hR
  clear hR
  go_wp2_with fail
  refine (implLeaseTake_c _ _ _ l now s o span _ hs hz hsz).mono ?_
  rintro e w2 ⟨AG, nG, cG, rfl, hG, hb2⟩
  rw [HR.out] at hG ⊢
  have hs := hs.bel hb2
  go_wp2_with fail
  refine (specLeaseTake_c _ _ _ l now s o span _ hs hz hsz).mono ?_
  rintro e w3 ⟨AW, nW, cW, rfl, hW, hb3⟩
  rw [HR.out] at hW ⊢
  have hs := hs.bel hb3
  have hG := own_bel hG hb3
  go_wp2_with fail
  refine (sameRecS_c _ _ _ _ _ _ lr lr _ (SlR.of_own hG) (SlR.of_own hW)).mono ?_
  rintro e w4 ⟨rfl, hb4⟩
  rw [HE.out lr]
  have hs := hs.bel hb4
  have hW := own_bel hW hb4
  have hG := own_bel hG hb4
  have hbA := bel_nx (bel_nx (bel_nx hb1 hb2) hb3) hb4
  cases br
  · go_wp2_with fail
    refine (sameRecS_c _ _ _ _ _ _ lr lr _ (SlR.of_own hG) (SlR.of_own hW)).mono ?_
    rintro e w5 ⟨rfl, hb5⟩
    rw [HE.out lr]
    go_wp2_with fail
    go_ret
    exact ⟨rfl, bel_nx hbA hb5⟩
  have hok := (take_open HR.out).1
  obtain ⟨_, ht, hnn, hoo, hss⟩ := takeOk_parts hok
  obtain ⟨t1, t2⟩ := timeB_iff.1 ht
  obtain ⟨o1, o2⟩ := inB_iff.1 hoo
  obtain ⟨s1, s2⟩ := inB_iff.1 hss
  have hzr := take_sz HR.out
  have hvl := (take_open HR.out).2.1
  clear hok ht hnn hoo hss
  have HV := Lib.hid hvl
  clear hvl
  obtain ⟨sp, hsp⟩ : ∃ sp : Int, sp = (n' : Int) % span := ⟨_, rfl⟩
  have p0 : 0 ≤ sp := by rw [hsp]; exact Int.emod_nonneg _ (by omega)
  have p1 : sp < span := by rw [hsp]; exact Int.emod_lt_of_pos _ (by omega)
  have HN := Lib.hid (take_now HR.out)
  have HT := Lib.hid (fun h0 => take_has HR.out (t := now + sp) h0 (by omega))
  have em : (n' : Int).tmod span = sp := by rw [hsp, Int.tmod_eq_emod_of_nonneg (by omega)]
  have em2 : (n' : Int) % span = sp := hsp.symm
  have e0 : (span == 0) = false := by simp; omega
  clear hsp
  go_wp2_with fail
  refine (implLeasesValid_c _ _ _ lr _ (SlR.of_own hG) hzr).mono ?_
  rintro e w5 ⟨rfl, hb5⟩
  rw [HV.out]
  have hG := own_bel hG hb5
  have eo : (o == o) = true := by simp
  go_wp2_with fail
  refine (implLeaseHas_c _ _ _ lr now s _ (SlR.of_own hG) hzr hsz).mono ?_
  rintro e w6 ⟨rfl, hb6⟩
  rw [HN.out]
  have hG := own_bel hG hb6
  have hbB := bel_nx (bel_nx hbA hb5) hb6
  by_cases ht : 9999 < now + sp
  · have dt : decide (9999 < now + sp) = true := decide_eq_true ht
    go_wp2_with fail
    go_ret
    exact ⟨rfl, hbB⟩
  · have dt : decide (9999 < now + sp) = false := decide_eq_false ht
    have HT2 := Lib.hid (HT.out (timeB_iff.2 ⟨by omega, by omega⟩))
    go_wp2_with fail
    refine (implLeaseHas_c _ _ _ lr (now + sp) s _ (SlR.of_own hG) hzr hsz).mono ?_
    rintro e w7 ⟨rfl, hb7⟩
    rw [HT2.out]
    go_wp2_with fail
    go_ret
    exact ⟨rfl, bel_nx hbB hb7⟩

set_option maxRecDepth 100000 in
theorem fnLeaseTake_l (os : Os) (started : os.Started) (H : Type) (enc : TypeId × Value → H) :
    ReturnsInHanded {} Try.checked os 14 .any (Rows.fnLeaseTakeSpec.pre6 enc Try.prog Try.f14 Rows.fnLeaseTakeRow.domain false) (Rows.fnLeaseTakeSpec.post enc Try.prog Try.f14 false true false false) := by
  refine returnsInHanded_of_change (C := Try.checked) own started (by kernel_rfl) Try.func14
    (ChangeSpec.witness6 (enc := enc) (C := Try.checked) false ⟨#[], #[.slice none 0 0, .slice none 0 0], []⟩ 8 (by kernel_rfl) (by kernel_rfl) (by kernel_rfl) (by kernel_rfl)) ?_
  intro W base args ds gs before hval0 hW hcnd _
  have hval : ∀ (j : Nat) t v, Try.f14.params[j]? = some t → args[j]? = some v → Value.okWide Try.prog W .any base t v := hval0
  have hW' := hW
  obtain ⟨p, q, hA0, hV, rfl, hfz, hnd⟩ := hW
  have hA : DataW.TrodAll enc Try.prog W 0 (fun _ => true) true Try.f14.params.toList args.toList ds p := hA0
  rw [Try.params14] at hA hval
  obtain ⟨v0, vs0, d0, ds0, p0, q0, hargs, rfl, rfl, h0, r0⟩ := trodAll_cons hA
  obtain ⟨v1, vs1, d1, ds1, p1, q1, rfl, rfl, rfl, h1, r1⟩ := trodAll_cons r0
  obtain ⟨rfl, rfl, rfl⟩ := trodAll_nil r1
  obtain rfl : args = #[v0, v1] := by cases args; simp_all
  obtain ⟨rfl, rfl⟩ := trodVars_none hV
  have k0 := h0
  have lt0 : ∀ x ∈ p0, x.block < W.heap.size := by obtain ⟨m, hm⟩ := k0; exact DataW.trod_lt m _ _ _ hm
  obtain ⟨A0, n0, c0, rfl⟩ := okWide_slice Try.underlying22 (hval 0 22 v0 rfl rfl)
  obtain ⟨z0, w0⟩ := bytes_row h0 (fun _ => rfl)
  have k1 := h1
  have lt1 : ∀ x ∈ p1, x.block < W.heap.size := by obtain ⟨m, hm⟩ := k1; exact DataW.trod_lt m _ _ _ hm
  obtain ⟨A1, n1, c1, rfl⟩ := okWide_slice Try.underlying22 (hval 1 22 v1 rfl rfl)
  obtain ⟨z1, w1⟩ := bytes_row h1 (fun _ => rfl)
  clear hA0 hval0
  refine (fnLeaseTake_w A0 A1 n0 c0 n1 c1 z0 z1 W w0 w1).mono fun e W' ⟨he, bel⟩ => ?_
  subst he
  exact ⟨_, rfl, _, _, _, [], _, [], hW', trodAll_mk1 (shut_bool Try.underlying4 _), (trodAll_cons_mk (Below.trod laidOut (by kernel_rfl) (of_decide_eq_true (by kernel_rfl)) k0 bel lt0) (trodAll_cons_mk (Below.trod laidOut (by kernel_rfl) (of_decide_eq_true (by kernel_rfl)) k1 bel lt1) trodAll_mk0)), rfl, bel.frame _, fun h => by cases h⟩

theorem fnLeaseTake_holds : Rows.FnLeaseTakeSaid :=
  OpenClaim.holds_of_wide 14 Try.f14 rfl rfl rfl rfl rfl rfl rfl ⟨rfl, rfl, rfl, rfl, rfl⟩ rfl rfl rfl rfl rfl (by kernel_rfl) Try.func14 (by kernel_rfl)
    (of_decide_eq_true (by kernel_rfl)) (by unfold Func.isWrapper; first | (rw [if_pos (by decide +kernel)]; kernel_rfl) | (rw [if_neg (by decide +kernel)]; exact ⟨rfl, rfl⟩))
    (fun os started H enc _ => fnLeaseTake_l os started H enc)
#print axioms fnLeaseTake_holds

end Go.Proofs.Ythkgechljfjpdaa
