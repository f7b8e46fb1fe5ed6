/- For every code that leases, a time, a name, an owner and a span are drawn from: all other leases are as before. No conditions. -/
import Derived.Test.YthkgechljfjpdaaLeaseTakeDraw
import Derived.Test.YthkgechljfjpdaaLeaseTakeSpec
import Derived.Test.YthkgechljfjpdaaLeaseTakeFacts
import Derived.Test.YthkgechljfjpdaaRecSame
import Derived.Test.YthkgechljfjpdaaLift
namespace Go.Proofs.Ythkgechljfjpdaa
open Go.ChangeShapes Go.WideShapes Go.ChangeAt Go.RowKit Go.Joins

theorem eqRL_self (l : List R3) : eqRL l l = true := decide_eq_true rfl
theorem own_count {w : World} {B : Nat} {e : TypeId} {A : Option Addr} {n c : Nat} {l : List R3} (h : w.ownsRow B e 3 (.slice A n c) n (l.flatMap encR)) : n = l.length := by
  have := h.1
  rw [flat_len (k := 3) (fun _ => rfl)] at this
  omega
theorem insR_sz {x : R3} {l : List R3} (hx : x.1.size ≤ 9223372036854775807) (hz : SzR l) : SzR (insR x l) := fun r hr => by
  rcases insR_mem.1 hr with rfl | h1
  · exact hx
  · exact hz r h1
theorem take_sz {l : List R3} {now : Int} {s : ByteArray} {o span : Int} {out : List R3} (h : takeR l now s o span = (out, true)) : SzR out := by
  obtain ⟨_, hv, _⟩ := take_open h
  intro r hr
  have := ((okAll_iff ltR_trans out).1 (leasesB_iff.1 hv).1).1 r hr
  simp [okL] at this
  have := (nameB_iff.1 this.1.1).2.1
  omega

theorem filt_no {l : List R3} {s s' : ByteArray} {k : Nat} {x y : Int} (h : l[k]? = some (s', x, y)) (hs : s' = s) : (l.take (k + 1)).filter (notS s) = (l.take k).filter (notS s) := by
  obtain ⟨hl, he⟩ := List.getElem?_eq_some_iff.1 h
  rw [List.take_succ_eq_append_getElem hl, List.filter_append, he]
  simp [notS, hs]
theorem filt_yes {l : List R3} {s s' : ByteArray} {k : Nat} {x y : Int} (h : l[k]? = some (s', x, y)) (hs : s' ≠ s) : (l.take (k + 1)).filter (notS s) = (l.take k).filter (notS s) ++ [(s', x, y)] := by
  obtain ⟨hl, he⟩ := List.getElem?_eq_some_iff.1 h
  rw [List.take_succ_eq_append_getElem hl, List.filter_append, he]
  simp [notS, hs]

set_option maxRecDepth 20000 in
set_option maxHeartbeats 2000000 in
theorem fnLeaseOthers_w (A : Option Addr) (n c : Nat) (zs : List Int) (w : World) (h : IsRow .u8 w A n c zs) : Calls Try.prog 12 #[.slice A n c] w fun e w' => e = .returned (.bool true) ∧ Below w.heap.size w w' := by
  obtain ⟨l1, l2⟩ := row_len h
  by_cases hn : 1048576 < n
  · go_enter Try.func12, Try.ntmps12
    go_wp2_with fail
    go_ret
    exact ⟨rfl, Below.refl _ _⟩
  have HE := Lib.hid eqRL_self
  go_enter Try.func12, Try.ntmps12
  go_wp2_with fail
  refine (drawLeaseTake_c A n c zs _ h).mono ?_
  rintro e w1 ⟨B, m, d, l, now, s, o, span, rfl, hs, hm, h5, hs6, hb1⟩
  have hz := sz5_szR h5
  have hsz : s.size ≤ 9223372036854775807 := by omega
  obtain ⟨⟨lr, br⟩, hR⟩ : ∃ R, takeR l now s o span = R := ⟨_, rfl⟩
  have HR := Lib.hid hR
  clear hR
  go_wp2_with fail
  refine (implLeaseTake_c _ _ _ l now s o span _ hs hz hsz).mono ?_
  rintro e w2 ⟨AG, nG, cG, rfl, hG, hb2⟩
  rw [HR.out] at hG ⊢
  have hs := hs.bel hb2
  go_wp2_with fail
  refine (specLeaseTake_c _ _ _ l now s o span _ hs hz hsz).mono ?_
  rintro e w3 ⟨AW, nW, cW, rfl, hW, hb3⟩
  rw [HR.out] at hW ⊢
  have hs := hs.bel hb3
  have hG := own_bel hG hb3
  go_wp2_with fail
  refine (sameRecS_c _ _ _ _ _ _ lr lr _ (SlR.of_own hG) (SlR.of_own hW)).mono ?_
  rintro e w4 ⟨rfl, hb4⟩
  rw [HE.out lr]
  have hs := hs.bel hb4
  have hW := own_bel hW hb4
  have hG := own_bel hG hb4
  have hbA := bel_nx (bel_nx (bel_nx hb1 hb2) hb3) hb4
  cases br
  · go_wp2_with fail
    refine (sameRecS_c _ _ _ _ _ _ lr lr _ (SlR.of_own hG) (SlR.of_own hW)).mono ?_
    rintro e w5 ⟨rfl, hb5⟩
    rw [HE.out lr]
    go_wp2_with fail
    go_ret
    exact ⟨rfl, bel_nx hbA hb5⟩
  have hok := (take_open HR.out).1
  obtain ⟨_, ht, hnn, hoo, hss⟩ := takeOk_parts hok
  obtain ⟨t1, t2⟩ := timeB_iff.1 ht
  obtain ⟨o1, o2⟩ := inB_iff.1 hoo
  obtain ⟨s1, s2⟩ := inB_iff.1 hss
  have hzr := take_sz HR.out
  have hvl := (take_open HR.out).2.1
  clear hok ht hnn hoo hss
  have HV := Lib.hid hvl
  clear hvl
  have HO := Lib.hid (take_others HR.out)
  have hmc := (hs.cap)
  have hmx := (hs.max)
  have hgc := (SlR.of_own hG).cap
  have hgx := (SlR.of_own hG).max
  have hlm := hs.len
  have hlg := own_count hG
  have hg8 : nG ≤ 8 := by rw [hlg]; exact leases_len HV.out
  have HLM := Lib.hid hlm
  have HLG := Lib.hid hlg
  clear hlm hlg
  obtain ⟨ii, hi0, hz0, hz1, hz2⟩ := info_parts rec_info
  have hA0 := (recs_new w4).alloc (.cells #[] 45)
  have hB0 := recs_new (w4.alloc (.cells #[] 45))
  rw [show (w4.alloc (.cells #[] 45)).heap.size = w4.heap.size + 1 by simp] at hB0
  go_wp2_with fail
  go_loopw [12, 14] (fun v i wr => ∃ (k p : Nat) (Av : Option Addr) (cv : Nat), k ≤ m ∧ p ≤ k ∧ i = .int .i64 k ∧ v = .slice Av p cv ∧ wr.ownsRow w4.heap.size 45 3 (.slice Av p cv) p (((l.take k).filter (notS s)).flatMap encR) ∧ wr.ownsRow w4.heap.size 45 3 (.slice (some ⟨w4.heap.size + 1, 0, none⟩) 0 0) 0 ([].flatMap encR) ∧ (Value.slice Av p cv).ownBlock ≠ some (w4.heap.size + 1) ∧ Below w4.heap.size w4 wr ∧ w4.heap.size + 1 < wr.heap.size) (fun _ i _ => m - (intOf i).toNat)
  case atStart => exact ⟨0, 0, _, _, Nat.zero_le _, Nat.le_refl _, rfl, rfl, hA0, ownsRow_base hB0 (by omega), by simp [Value.ownBlock], bel_al (bel_al (bel_refl _) _) _, by simp⟩
  case round =>
    obtain ⟨k, p, Av, cv, hk, hpk, rfl, rfl, hA, hB, hne, hbr, hzr1⟩ := hrel
    by_cases hlt : k < m
    · obtain ⟨b, off, s', x, y, rfl, hx, hc0, hc1, hc2⟩ := SlR.get (hs.bel hbr) hlt
      have HX := Lib.hid hx
      have HN := Lib.hid hne
      clear hx hne
      have i0 : (0 : Int) ≤ (k : Int) := by omega
      have i1 : (k : Int) < (m : Int) := by omega
      by_cases hss : s' = s
      · have e1 : (s'.toList == s.toList) = true := beqS_yes hss
        have HS := Lib.hid hss
        clear hss
        go_wp2_with fail
        go_roundw
        case rel => exact ⟨k + 1, p, Av, cv, by omega, by omega, by go_num, rfl, by rw [filt_no HX.out HS.out]; exact hA, hB, HN.out, hbr, hzr1⟩
        case measure => simp [intOf]; omega
      · have e1 : (s'.toList == s.toList) = false := beqS_no hss
        have HS := Lib.hid hss
        clear hss
        go_wp2_with (at_builtin; refine wpList_append_sl (enc := encR) rfl _ _ 23 rfl w4.heap.size 45 ii (.agg #[.string ByteArray.empty, .int .i64 0, .int .i64 0]) 3 32 Try.underlying23 hi0 hz0 hz1 hz2 rfl (by decide) (.slice Av p cv) (p) (((l.take k).filter (notS s)).flatMap encR) rfl (hA.alloc _) (some ⟨wr.heap.size, 0, none⟩) 1 1 [(s', x, y)] rfl (fun _ => rfl) (Sl.one (Blk.new _ _ _)) one_R (by unfold maxLen; omega) (by omega) (by have := hbr.size; simp; omega) ?_; intro v5 w5 ho5 hg5 hl5; obtain ⟨Av5, cv5, rfl⟩ := own_form ho5; rw [flat_one] at ho5)
        go_roundw
        case rel =>
          refine ⟨k + 1, p + 1, _, _, by omega, by omega, by go_num, rfl, by rw [filt_yes HX.out HS.out]; exact ho5, (hB.alloc _).kept hg5 (.inr (fun e => HN.out e.symm)), ?_, (bel_al hbr _).grown hg5 (bel_al hbr _).size (fun j hj => (hA.lt j hj).1), by have := hg5.size; simp at this; omega⟩
          rcases hl5 with e | e
          · rw [e]; exact HN.out
          · rw [e]; simp; omega
        case measure => simp [intOf]; omega
    · obtain rfl : k = m := by omega
      have HN := Lib.hid hne
      clear hne
      have hAl := hA
      rw [show l.take k = l by rw [List.take_of_length_le (by rw [HLM.out]; exact Nat.le_refl _)]] at hAl
      clear hA
      go_wp2_with fail
      obtain ⟨wo, hwo⟩ : ∃ wo : World, wo = wr := ⟨_, rfl⟩
      subst hwo
      go_loopw [13, 15] (fun v i wr => ∃ (j q : Nat) (Bv : Option Addr) (dv : Nat), j ≤ nG ∧ q ≤ j ∧ i = .int .i64 j ∧ v = .slice Bv q dv ∧ wr.ownsRow w4.heap.size 45 3 (.slice Av p cv) p ((l.filter (notS s)).flatMap encR) ∧ wr.ownsRow w4.heap.size 45 3 (.slice Bv q dv) q (((lr.take j).filter (notS s)).flatMap encR) ∧ (Value.slice Av p cv).ownBlock ≠ (Value.slice Bv q dv).ownBlock ∧ Below w4.heap.size w4 wr) (fun _ i _ => nG - (intOf i).toNat)
      case atStart => exact ⟨0, 0, _, _, Nat.zero_le _, Nat.le_refl _, rfl, rfl, hAl, by simpa using hB, by simpa [Value.ownBlock] using HN.out, hbr⟩
      case round =>
        obtain ⟨j, q, Bv, dv, hj, hqj, rfl, rfl, hA, hB2, hne, hbr2⟩ := hrel
        have HN2 := Lib.hid hne
        clear hne
        by_cases hlt2 : j < nG
        · obtain ⟨b, off, s', x, y, rfl, hx, hc0, hc1, hc2⟩ := SlR.get ((SlR.of_own hG).bel hbr2) hlt2
          have HX := Lib.hid hx
          clear hx
          have i0 : (0 : Int) ≤ (j : Int) := by omega
          have i1 : (j : Int) < (nG : Int) := by omega
          have hwz := hbr2.size
          by_cases hss : s' = s
          · have e1 : (s'.toList == s.toList) = true := beqS_yes hss
            have HS := Lib.hid hss
            clear hss
            go_wp2_with fail
            go_roundw
            case rel => exact ⟨j + 1, q, Bv, dv, by omega, by omega, by go_num, rfl, hA, by rw [filt_no HX.out HS.out]; exact hB2, HN2.out, hbr2⟩
            case measure => simp [intOf]; omega
          · have e1 : (s'.toList == s.toList) = false := beqS_no hss
            have HS := Lib.hid hss
            clear hss
            go_wp2_with (at_builtin; refine wpList_append_sl (enc := encR) rfl _ _ 23 rfl w4.heap.size 45 ii (.agg #[.string ByteArray.empty, .int .i64 0, .int .i64 0]) 3 32 Try.underlying23 hi0 hz0 hz1 hz2 rfl (by decide) (.slice Bv q dv) (q) (((lr.take j).filter (notS s)).flatMap encR) rfl (hB2.alloc _) (some ⟨wr.heap.size, 0, none⟩) 1 1 [(s', x, y)] rfl (fun _ => rfl) (Sl.one (Blk.new _ _ _)) one_R (by unfold maxLen; omega) (by omega) (by have := hbr2.size; simp; omega) ?_; intro v5 w5 ho5 hg5 hl5; obtain ⟨Av5, cv5, rfl⟩ := own_form ho5; rw [flat_one] at ho5)
            go_roundw
            case rel =>
              refine ⟨j + 1, q + 1, _, _, by omega, by omega, by go_num, rfl, (hA.alloc _).kept hg5 (.inr HN2.out), by rw [filt_yes HX.out HS.out]; exact ho5, ?_, (bel_al hbr2 _).grown hg5 (bel_al hbr2 _).size (fun j hj => (hB2.lt j hj).1)⟩
              rcases hl5 with e | e
              · rw [e]; exact HN2.out
              · rw [e]
                intro he
                have := (hA.lt _ he).2
                simp at this
                omega
            case measure => simp [intOf]; omega
        · obtain rfl : j = nG := by omega
          have hBl := hB2
          rw [show lr.take j = lr by rw [List.take_of_length_le (by rw [← HLG.out]; exact Nat.le_refl _)], HO.out.1] at hBl
          have hqc := own_count hBl
          have hjl : j = q + 1 := by rw [hqc, HLG.out, HO.out.2, HO.out.1]
          clear hB2 hqc
          have hpc := SlR.of_own hA
          go_wp2_with fail
          refine (sameRecS_c _ _ _ _ _ _ _ _ _ hpc (SlR.of_own hBl)).mono ?_
          rintro e w7 ⟨rfl, hb7⟩
          rw [HE.out]
          subst hjl
          go_wp2_with fail
          go_ret
          exact ⟨by simp, bel_nx (bel_nx hbA hbr2) hb7⟩

set_option maxRecDepth 100000 in
theorem fnLeaseOthers_l (os : Os) (started : os.Started) (H : Type) (enc : TypeId × Value → H) :
    ReturnsInHanded {} Try.checked os 12 .any (Rows.fnLeaseOthersSpec.pre6 enc Try.prog Try.f12 Rows.fnLeaseOthersRow.domain false) (Rows.fnLeaseOthersSpec.post enc Try.prog Try.f12 false true false false) := by
  refine returnsInHanded_of_change (C := Try.checked) own started (by kernel_rfl) Try.func12
    (ChangeSpec.witness6 (enc := enc) (C := Try.checked) false ⟨#[], #[.slice none 0 0], []⟩ 8 (by kernel_rfl) (by kernel_rfl) (by kernel_rfl) (by kernel_rfl)) ?_
  intro W base args ds gs before hval0 hW hcnd _
  have hval : ∀ (j : Nat) t v, Try.f12.params[j]? = some t → args[j]? = some v → Value.okWide Try.prog W .any base t v := hval0
  have hW' := hW
  obtain ⟨p, q, hA0, hV, rfl, hfz, hnd⟩ := hW
  have hA : DataW.TrodAll enc Try.prog W 0 (fun _ => true) true Try.f12.params.toList args.toList ds p := hA0
  rw [Try.params12] at hA hval
  obtain ⟨v0, vs0, d0, ds0, p0, q0, hargs, rfl, rfl, h0, r0⟩ := trodAll_cons hA
  obtain ⟨rfl, rfl, rfl⟩ := trodAll_nil r0
  obtain rfl : args = #[v0] := by cases args; simp_all
  obtain ⟨rfl, rfl⟩ := trodVars_none hV
  have k0 := h0
  have lt0 : ∀ x ∈ p0, x.block < W.heap.size := by obtain ⟨m, hm⟩ := k0; exact DataW.trod_lt m _ _ _ hm
  obtain ⟨A0, n0, c0, rfl⟩ := okWide_slice Try.underlying22 (hval 0 22 v0 rfl rfl)
  obtain ⟨z0, w0⟩ := bytes_row h0 (fun _ => rfl)
  clear hA0 hval0
  refine (fnLeaseOthers_w A0 n0 c0 z0 W w0).mono fun e W' ⟨he, bel⟩ => ?_
  subst he
  exact ⟨_, rfl, _, _, _, [], _, [], hW', trodAll_mk1 (shut_bool Try.underlying4 _), (trodAll_cons_mk (Below.trod laidOut (by kernel_rfl) (of_decide_eq_true (by kernel_rfl)) k0 bel lt0) trodAll_mk0), rfl, bel.frame _, fun h => by cases h⟩

theorem fnLeaseOthers_holds : Rows.FnLeaseOthersSaid :=
  OpenClaim.holds_of_wide 12 Try.f12 rfl rfl rfl rfl rfl rfl rfl ⟨rfl, rfl, rfl, rfl, rfl⟩ rfl rfl rfl rfl rfl (by kernel_rfl) Try.func12 (by kernel_rfl)
    (of_decide_eq_true (by kernel_rfl)) (by unfold Func.isWrapper; first | (rw [if_pos (by decide +kernel)]; kernel_rfl) | (rw [if_neg (by decide +kernel)]; exact ⟨rfl, rfl⟩))
    (fun os started H enc _ => fnLeaseOthers_l os started H enc)
#print axioms fnLeaseOthers_holds

end Go.Proofs.Ythkgechljfjpdaa
