/- For every code that leases are drawn from: leases may be missing, and none may be there twice; none is there twice. No conditions. -/
import Derived.Test.YthkgechljfjpdaaLeasesDraw
import Derived.Test.YthkgechljfjpdaaLeasesPlain
import Derived.Test.YthkgechljfjpdaaLift
namespace Go.Proofs.Ythkgechljfjpdaa
open Go.ChangeShapes Go.WideShapes Go.ChangeAt Go.RowKit Go.Joins

theorem one_R (a : R3) (u : Value) (hu : u ∈ encR a) : u.oneCell' = true := by simp [encR] at hu; rcases hu with rfl | rfl | rfl <;> rfl

set_option maxHeartbeats 1000000 in
theorem fnLeasesPart_w (A A' : Option Addr) (n c n' c' : Nat) (zs zs' : List Int) (w : World) (h : IsRow .u8 w A n c zs) (h' : IsRow .u8 w A' n' c' zs') : Calls Try.prog 3 #[.slice A n c, .slice A' n' c'] w fun e w' => e = .returned (.bool true) ∧ Below w.heap.size w w' := by
  obtain ⟨l1, l2⟩ := row_len h
  obtain ⟨l3, l4⟩ := row_len h'
  by_cases hn : 1048576 < n ∨ 1048576 < n'
  · by_cases hn1 : 1048576 < n
    all_goals
      go_enter Try.func3, Try.ntmps3
      go_wp2_with fail
      go_ret
      exact ⟨rfl, Below.refl _ _⟩
  · have g1 : (n : Int) ≤ 1048576 := by omega
    have g2 : (n' : Int) ≤ 1048576 := by omega
    clear hn
    go_enter Try.func3, Try.ntmps3
    go_wp2_with fail
    refine (drawLeasesValid_c A n c zs _ h).mono ?_
    rintro e w1 ⟨B, m, d, l, rfl, hs, hm, h5, hb1⟩
    have hcap := hs.cap
    have hmax := hs.max
    have HL := Lib.hid hs.len
    have hz := sz5_szR h5
    go_wp2_with fail
    refine (implLeasesValid_c _ _ _ l _ hs hz).mono ?_
    rintro e w2 ⟨rfl, hb2⟩
    have hs2 := hs.bel hb2
    go_wp2_with fail
    refine (specLeasesValid_c _ _ _ l _ hs2 hz).mono ?_
    rintro e w3 ⟨rfl, hb3⟩
    have hs3 := hs2.bel hb3
    have hbA := bel_nx (bel_nx hb1 hb2) hb3
    clear hs hs2 h h' hb1 hb2 hb3 h5
    cases hv : leasesB l
    · go_wp2_with fail
      go_ret
      exact ⟨rfl, hbA⟩
    · have HV := Lib.hid hv
      clear hv
      rcases Nat.eq_zero_or_pos m with rfl | hm0
      · go_wp2_with fail
        go_ret
        exact ⟨rfl, hbA⟩
      · obtain ⟨i0, hi0, hz0, hz1, hz2⟩ := info_parts rec_info
        obtain ⟨b, off, rfl, _⟩ := hs3.at_ hm0
        obtain ⟨k, hk⟩ : ∃ k, k = n' % m := ⟨_, rfl⟩
        have hkm : k < m := by rw [hk]; exact Nat.mod_lt _ hm0
        have ek : (n' : Int).tmod (m : Int) = (k : Int) := by rw [hk]; rfl
        have HK := Lib.hid hk
        clear hk
        have em : ((m : Int) == 0) = false := by simp; omega
        have k0 : (0 : Int) ≤ (k : Int) := by omega
        have k1 : (k : Int) ≤ (d : Int) := by omega
        have k2 : (k : Int) + 1 ≤ (m : Int) := by omega
        have k3 : (m : Int) ≤ (d : Int) := by omega
        go_wp2_with fail
        have hsD := hs3.drop (m := k + 1) (by omega)
        have hsE := hs3.drop (m := k) (by omega)
        have dk : ¬ d = k := by omega
        rw [if_neg dk] at hsE
        obtain ⟨AD, hAD⟩ : ∃ AD, (if d = k + 1 then some (⟨b, off, none⟩ : Addr) else some ⟨b, off + (k + 1) * 3, none⟩) = AD := ⟨_, rfl⟩
        rw [hAD] at hsD
        have q1 : 0 + k ≤ maxLen := by unfold maxLen; omega
        have q2 : (0 + k) * 32 ≤ 140737488355328 := by omega
        have q3 : 0 + k + (m - (k + 1)) ≤ maxLen := by unfold maxLen; omega
        have q4 : (0 + k + (m - (k + 1))) * 32 ≤ 140737488355328 := by omega
        have p1 : 0 + (k + 1) ≤ maxLen := by unfold maxLen; omega
        have p2 : (0 + (k + 1)) * 32 ≤ 140737488355328 := by omega
        have p3 : 0 + (k + 1) + (m - k) ≤ maxLen := by unfold maxLen; omega
        have p4 : (0 + (k + 1) + (m - k)) * 32 ≤ 140737488355328 := by omega
        have r0 : k ≤ m := by omega
        have r1 : k + 1 ≤ m := by omega
        have r2 : 0 ≤ maxLen := by unfold maxLen; omega
        have k4 : (0 : Int) ≤ (k : Int) + 1 := by omega
        have k5 : (k : Int) + 1 ≤ (d : Int) := by omega
        have kt : ((k : Int) + 1).toNat = k + 1 := by omega
        have kw : IntKind.i64.wrap ((k : Int) + 1) = (k : Int) + 1 := IntWalk.i64_in _ (by omega)
        go_region_held3 (fun _ => True) (exact trivial)
          ((first
            | (refine step_append_sl (enc := encR) (by rfl) _ _ 23 (by rfl) w3.heap.size 45 i0 (.agg #[.string ByteArray.empty, .int .i64 0, .int .i64 0]) 3 32 Try.underlying23 hi0 hz0 hz1 hz2 rfl (by decide) _ _ _ (by rfl) hoa AD (m - (k + 1)) (d - (k + 1)) (l.drop (k + 1)) (by rfl) (fun _ => rfl) (hsD.bel hba) one_R q3 q4 hzA ?_; intro vb wb hob hgb hlb; have hbb : Below w3.heap.size w3 wb := hba.grown hgb hzA (fun j hj => (hoa.lt j hj).1); have hbb' := hbb)
            | (refine step_append_sl (enc := encR) (by rfl) _ _ 23 (by rfl) w3.heap.size 45 i0 (.agg #[.string ByteArray.empty, .int .i64 0, .int .i64 0]) 3 32 Try.underlying23 hi0 hz0 hz1 hz2 rfl (by decide) _ 0 [] (by rfl) ((World.ownsRow_lit w3 #[] 0 (Nat.le_refl _) r2 rfl).drew) (some ⟨b, off, none⟩) k d (l.take k) (by rfl) (fun _ => rfl) ((hs3.take r0).al _).dr one_R q1 q2 (by simp) ?_; intro va wa hoa hga hla; have hba : Below w3.heap.size w3 wa := ((bel_al (bel_refl w3) _).drew).grown hga (by simp) (fun j hj => by cases hj; exact Nat.le_refl _); have hzA := hba.size)))
        go_wp2_with fail
        go_region_held3 (fun _ => True) (exact trivial)
          ((first
            | (refine step_append_sl (enc := encR) (by rfl) _ _ 23 (by rfl) wb.heap.size 45 i0 (.agg #[.string ByteArray.empty, .int .i64 0, .int .i64 0]) 3 32 Try.underlying23 hi0 hz0 hz1 hz2 rfl (by decide) _ _ _ (by rfl) hoc _ (m - k) (d - k) (l.drop k) (by rfl) (fun _ => rfl) ((hsE.bel hbb').bel hbc) one_R p3 p4 hzC ?_; intro vd wd hod hgd hld; have hbd : Below wb.heap.size wb wd := hbc.grown hgd hzC (fun j hj => (hoc.lt j hj).1))
            | (refine step_append_sl (enc := encR) (by rfl) _ _ 23 (by rfl) wb.heap.size 45 i0 (.agg #[.string ByteArray.empty, .int .i64 0, .int .i64 0]) 3 32 Try.underlying23 hi0 hz0 hz1 hz2 rfl (by decide) _ 0 [] (by rfl) ((World.ownsRow_lit wb #[] 0 (Nat.le_refl _) r2 rfl).drew) (some ⟨b, off, none⟩) (k + 1) d (l.take (k + 1)) (by rfl) (fun _ => rfl) (((hs3.take r1).bel hbb').al _).dr one_R p1 p2 (by simp) ?_; intro vc wc hoc hgc hlc; have hbc : Below wb.heap.size wb wc := ((bel_al (bel_refl wb) _).drew).grown hgc (by simp) (fun j hj => by cases hj; exact Nat.le_refl _); have hzC := hbc.size)))
        clear kw kt
        go_wp2_with fail
        obtain ⟨nx, hnx⟩ : ∃ nx, 0 + k + (m - (k + 1)) = nx := ⟨_, rfl⟩
        obtain ⟨ny, hny⟩ : ∃ ny, 0 + (k + 1) + (m - k) = ny := ⟨_, rfl⟩
        rw [hnx] at hob
        rw [hny] at hod
        clear hnx hny
        obtain ⟨Ab, cb, rfl⟩ := own_form hob
        obtain ⟨Ad, cd, rfl⟩ := own_form hod
        have hsx : SlR wb Ab nx cb (l.take k ++ l.drop (k + 1)) := SlR.of_own (by simpa [List.flatMap_append] using hob)
        have hsy : SlR wd Ad ny cd (l.take (k + 1) ++ l.drop k) := SlR.of_own (by simpa [List.flatMap_append] using hod)
        have HX := Lib.hid (leases_less HV.out k)
        have HY := Lib.hid (leases_twice l k (by have := HL.out; omega))
        refine (implLeasesValid_c _ _ _ _ _ (hsx.bel hbd) (fun r hr => hz r (by rcases List.mem_append.1 hr with h1 | h1; exact List.mem_of_mem_take h1; exact List.mem_of_mem_drop h1))).mono ?_
        rintro e w5 ⟨rfl, hb5⟩
        rw [HX.out]
        go_wp2_with fail
        refine (implLeasesValid_c _ _ _ _ _ (hsy.bel hb5) (fun r hr => hz r (by rcases List.mem_append.1 hr with h1 | h1; exact List.mem_of_mem_take h1; exact List.mem_of_mem_drop h1))).mono ?_
        rintro e w6 ⟨rfl, hb6⟩
        rw [HY.out]
        go_wp2_with fail
        go_ret
        exact ⟨rfl, bel_nx (bel_nx (bel_nx (bel_nx hbA hbb') hbd) hb5) hb6⟩

set_option maxRecDepth 100000 in
theorem fnLeasesPart_l (os : Os) (started : os.Started) (H : Type) (enc : TypeId × Value → H) :
    ReturnsInHanded {} Try.checked os 3 .any (Rows.fnLeasesPartSpec.pre6 enc Try.prog Try.f3 Rows.fnLeasesPartRow.domain false) (Rows.fnLeasesPartSpec.post enc Try.prog Try.f3 false true false false) := by
  refine returnsInHanded_of_change (C := Try.checked) own started (by kernel_rfl) Try.func3
    (ChangeSpec.witness6 (enc := enc) (C := Try.checked) false ⟨#[], #[.slice none 0 0, .slice none 0 0], []⟩ 8 (by kernel_rfl) (by kernel_rfl) (by kernel_rfl) (by kernel_rfl)) ?_
  intro W base args ds gs before hval0 hW hcnd _
  have hval : ∀ (j : Nat) t v, Try.f3.params[j]? = some t → args[j]? = some v → Value.okWide Try.prog W .any base t v := hval0
  have hW' := hW
  obtain ⟨p, q, hA0, hV, rfl, hfz, hnd⟩ := hW
  have hA : DataW.TrodAll enc Try.prog W 0 (fun _ => true) true Try.f3.params.toList args.toList ds p := hA0
  rw [Try.params3] at hA hval
  obtain ⟨v0, vs0, d0, ds0, p0, q0, hargs, rfl, rfl, h0, r0⟩ := trodAll_cons hA
  obtain ⟨v1, vs1, d1, ds1, p1, q1, rfl, rfl, rfl, h1, r1⟩ := trodAll_cons r0
  obtain ⟨rfl, rfl, rfl⟩ := trodAll_nil r1
  obtain rfl : args = #[v0, v1] := by cases args; simp_all
  obtain ⟨rfl, rfl⟩ := trodVars_none hV
  have k0 := h0
  have lt0 : ∀ x ∈ p0, x.block < W.heap.size := by obtain ⟨m, hm⟩ := k0; exact DataW.trod_lt m _ _ _ hm
  obtain ⟨A0, n0, c0, rfl⟩ := okWide_slice Try.underlying22 (hval 0 22 v0 rfl rfl)
  obtain ⟨z0, w0⟩ := bytes_row h0 (fun _ => rfl)
  have k1 := h1
  have lt1 : ∀ x ∈ p1, x.block < W.heap.size := by obtain ⟨m, hm⟩ := k1; exact DataW.trod_lt m _ _ _ hm
  obtain ⟨A1, n1, c1, rfl⟩ := okWide_slice Try.underlying22 (hval 1 22 v1 rfl rfl)
  obtain ⟨z1, w1⟩ := bytes_row h1 (fun _ => rfl)
  clear hA0 hval0
  refine (fnLeasesPart_w A0 A1 n0 c0 n1 c1 z0 z1 W w0 w1).mono fun e W' ⟨he, bel⟩ => ?_
  subst he
  exact ⟨_, rfl, _, _, _, [], _, [], hW', trodAll_mk1 (shut_bool Try.underlying4 _), (trodAll_cons_mk (Below.trod laidOut (by kernel_rfl) (of_decide_eq_true (by kernel_rfl)) k0 bel lt0) (trodAll_cons_mk (Below.trod laidOut (by kernel_rfl) (of_decide_eq_true (by kernel_rfl)) k1 bel lt1) trodAll_mk0)), rfl, bel.frame _, fun h => by cases h⟩

theorem fnLeasesPart_holds : Rows.FnLeasesPartSaid :=
  OpenClaim.holds_of_wide 3 Try.f3 rfl rfl rfl rfl rfl rfl rfl ⟨rfl, rfl, rfl, rfl, rfl⟩ rfl rfl rfl rfl rfl (by kernel_rfl) Try.func3 (by kernel_rfl)
    (of_decide_eq_true (by kernel_rfl)) (by unfold Func.isWrapper; first | (rw [if_pos (by decide +kernel)]; kernel_rfl) | (rw [if_neg (by decide +kernel)]; exact ⟨rfl, rfl⟩))
    (fun os started H enc _ => fnLeasesPart_l os started H enc)
#print axioms fnLeasesPart_holds

end Go.Proofs.Ythkgechljfjpdaa
