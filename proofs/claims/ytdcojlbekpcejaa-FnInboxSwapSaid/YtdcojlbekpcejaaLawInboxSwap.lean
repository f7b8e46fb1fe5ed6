/- For every code that an inbox and a number are drawn from: two messages in either order leave the same inbox. No conditions. -/
import Derived.Test.YtdcojlbekpcejaaInboxSame
import Derived.Test.YtdcojlbekpcejaaLift
namespace Go.Proofs.Ytdcojlbekpcejaa
open Go.ChangeShapes Go.WideShapes Go.ChangeAt Go.RowKit Go.Joins

theorem take_bounds {a x b : Int} {l m : List Int} {f g : Bool} (h : takeF a l x = (b, m, f, g)) : 0 ≤ b ∧ b ≤ 999 := by
  cases g
  · have h0 : b = 0 := by
      unfold takeF at h
      split at h
      · split at h
        · injection h with _ h2; injection h2 with _ h3; injection h3 with _ h4; cases h4
        · split at h
          · injection h with _ h2; injection h2 with _ h3; injection h3 with _ h4; cases h4
          · injection h with h1 _; exact h1.symm
      · injection h with h1 _; exact h1.symm
    omega
  · have := (take_ok h).2.2.2.1
    have := inb_iff.1 this
    exact ⟨this.1, this.2.1⟩
theorem swap_eq {a x p p1 p2 p3 : Int} {l lp l1 l2 l3 : List Int} {f f1 f2 f3 : Bool} (h : takeF a l x = (p, lp, f, true)) (h1 : takeF p lp (x + 1) = (p1, l1, f1, true)) (h2 : takeF a l (x + 1) = (p2, l2, f2, true)) (h3 : takeF p2 l2 x = (p3, l3, f3, true)) : p1 = p3 ∧ l1 = l3 := by
  obtain ⟨_, _, _, _, _, m0⟩ := take_ok h
  obtain ⟨_, _, _, v1, _, m1⟩ := take_ok h1
  obtain ⟨_, _, _, _, _, m2⟩ := take_ok h2
  obtain ⟨_, _, _, v3, _, m3⟩ := take_ok h3
  refine canon v1 v3 (fun z _ => ?_)
  rw [m1, m0, m3, m2, Bool.or_right_comm]

set_option maxRecDepth 20000 in
set_option maxHeartbeats 2000000 in
theorem fnInboxSwap_w (A : Option Addr) (n c : Nat) (zs : List Int) (w : World) (h : IsRow .u8 w A n c zs) : Calls Try.prog 11 #[.slice A n c] w fun e w' => e = .returned (.bool true) ∧ Below w.heap.size w w' := by
  obtain ⟨l1, l2⟩ := row_len h
  by_cases hn : 1048576 < n
  · go_enter Try.func11, Try.ntmps11
    go_wp2_with fail
    go_ret
    exact ⟨rfl, Below.refl _ _⟩
  have g1 : (n : Int) ≤ 1048576 := by omega
  clear hn
  go_enter Try.func11, Try.ntmps11
  go_wp2_with fail
  refine (drawInboxTake_c A n c zs _ h).mono ?_
  rintro e w1 ⟨a, B, m, d, l, x, rfl, hs, hm, ha1, ha2, hx1, hx2, hb1⟩
  have hW := hb1
  obtain ⟨⟨p, lp, f, ok⟩, hT⟩ : ∃ R, takeF a l x = R := ⟨_, rfl⟩
  have HT := Lib.hid hT
  clear hT
  go_wp2_with fail
  have hs := hs.al (.cells #[.int .i64 a, .slice B m d] 25)
  have hW := bel_al hW (.cells #[.int .i64 a, .slice B m d] 25)
  have kb := Blk.new w1 25 #[.int .i64 a, .slice B m d]
  have c_kb := kb.cell
  have f_kb := kb.frozen
  refine (implInboxTake_c a B m d l x _ hs (by omega) (by omega)).mono ?_
  rw [HT.out]
  rintro e w2 ⟨P, pn, pc, rfl, hop, hb2⟩
  have kb := kb.bel hb2
  have hs := hs.bel hb2
  have hW := bel_nx hW hb2
  have hP := SlI.of_own hop
  clear hop hb2
  have c_kb := kb.cell
  have f_kb := kb.frozen
  go_wp2_with fail
  have kb := kb.al (.cells #[.int .i64 p, .slice P pn pc] 25)
  have hs := hs.al (.cells #[.int .i64 p, .slice P pn pc] 25)
  have hP := hP.al (.cells #[.int .i64 p, .slice P pn pc] 25)
  have hW := bel_al hW (.cells #[.int .i64 p, .slice P pn pc] 25)
  have ko := Blk.new w2 25 #[.int .i64 p, .slice P pn pc]
  refine (specInboxTake_c a B m d l x _ hs (by omega) (by omega)).mono ?_
  rw [HT.out]
  rintro e w3 ⟨Q, qn, qc, rfl, hQ, hqb, hb3⟩
  have kb := kb.bel hb3
  have ko := ko.bel hb3
  have hs := hs.bel hb3
  have hP := hP.bel hb3
  have hW := bel_nx hW hb3
  clear hqb hb3
  have c_kb := kb.cell
  have f_kb := kb.frozen
  have c_ko := ko.cell
  have f_ko := ko.frozen
  go_wp2_with fail
  have kb := kb.al (.cells #[.int .i64 p, .slice Q qn qc] 25)
  have ko := ko.al (.cells #[.int .i64 p, .slice Q qn qc] 25)
  have hs := hs.al (.cells #[.int .i64 p, .slice Q qn qc] 25)
  have hP := hP.al (.cells #[.int .i64 p, .slice Q qn qc] 25)
  have hQ := hQ.al (.cells #[.int .i64 p, .slice Q qn qc] 25)
  have hW := bel_al hW (.cells #[.int .i64 p, .slice Q qn qc] 25)
  have kw := Blk.new w3 25 #[.int .i64 p, .slice Q qn qc]
  refine (sameInbox_same p P Q pn pc qn qc lp _ hP hQ).mono ?_
  rintro e w4 ⟨rfl, hb4⟩
  have kb := kb.bel hb4
  have ko := ko.bel hb4
  have kw := kw.bel hb4
  have hs := hs.bel hb4
  have hP := hP.bel hb4
  have hQ := hQ.bel hb4
  have hW := bel_nx hW hb4
  clear hb4
  have c_kb := kb.cell
  have f_kb := kb.frozen
  have c_ko := ko.cell
  have f_ko := ko.frozen
  have c_kw := kw.cell
  have f_kw := kw.frozen
  cases ok
  · go_wp2_with fail
    refine (sameInbox_same p P Q pn pc qn qc lp _ hP hQ).mono ?_
    rintro e w5 ⟨rfl, hb5⟩
    have kb := kb.bel hb5
    have ko := ko.bel hb5
    have kw := kw.bel hb5
    have hs := hs.bel hb5
    have hP := hP.bel hb5
    have hQ := hQ.bel hb5
    have hW := bel_nx hW hb5
    go_wp2_with fail
    go_ret
    exact ⟨rfl, hW⟩
  obtain ⟨HV, HX1, HX9, HVp, Hf, Hm⟩ := take_ok HT.out
  obtain ⟨hp0, hp9, _⟩ := inb_all HVp
  by_cases h9 : x = 999
  · have ex : (x == 999) = true := by simpa using h9
    clear HV HVp Hf Hm h9
    go_wp2_with fail
    refine (sameInbox_same p P Q pn pc qn qc lp _ hP hQ).mono ?_
    rintro e w5 ⟨rfl, hb5⟩
    have kb := kb.bel hb5
    have ko := ko.bel hb5
    have kw := kw.bel hb5
    have hs := hs.bel hb5
    have hP := hP.bel hb5
    have hQ := hQ.bel hb5
    have hW := bel_nx hW hb5
    go_wp2_with fail
    go_ret
    exact ⟨rfl, hW⟩
  have ex : (x == 999) = false := by simpa using h9
  obtain ⟨a0, a9, _⟩ := inb_all HV
  have hw1 : IntKind.i64.wrap (x + 1) = x + 1 := by rw [IntKind.wrap_i64]; omega
  obtain ⟨⟨p1, l1, f1, q1⟩, hT1⟩ : ∃ R, takeF p lp (x + 1) = R := ⟨_, rfl⟩
  obtain ⟨⟨p2, l2, f2, q2⟩, hT2⟩ : ∃ R, takeF a l (x + 1) = R := ⟨_, rfl⟩
  have hp2 : 0 ≤ p2 ∧ p2 ≤ 999 := take_bounds hT2
  obtain ⟨⟨p3, l3, f3, q3⟩, hT3⟩ : ∃ R, takeF p2 l2 x = R := ⟨_, rfl⟩
  have HE : Hid (q1 = true → q2 = true → q3 = true → p1 = p3 ∧ l1 = l3) := Lib.hid (fun e1 e2 e3 => swap_eq HT.out (e1 ▸ hT1) (e2 ▸ hT2) (e3 ▸ hT3))
  have HT1 := Lib.hid hT1
  have HT2 := Lib.hid hT2
  have HT3 := Lib.hid hT3
  clear hT1 hT2 hT3 HV HVp Hf Hm h9
  go_wp2_with fail
  refine (implInboxTake_c p P pn pc lp (x + 1) _ hP (by omega) (by omega)).mono ?_
  rw [HT1.out]
  rintro e w5 ⟨X, Xn, Xc, rfl, hoX, hb5⟩
  have kb := kb.bel hb5
  have ko := ko.bel hb5
  have kw := kw.bel hb5
  have hs := hs.bel hb5
  have hP := hP.bel hb5
  have hQ := hQ.bel hb5
  have hW := bel_nx hW hb5
  have hX := SlI.of_own hoX
  clear hoX hb5
  have c_kb := kb.cell
  have f_kb := kb.frozen
  have c_ko := ko.cell
  have f_ko := ko.frozen
  have c_kw := kw.cell
  have f_kw := kw.frozen
  go_wp2_with fail
  have kb := kb.al (.cells #[.int .i64 p1, .slice X Xn Xc] 25)
  have ko := ko.al (.cells #[.int .i64 p1, .slice X Xn Xc] 25)
  have kw := kw.al (.cells #[.int .i64 p1, .slice X Xn Xc] 25)
  have hs := hs.al (.cells #[.int .i64 p1, .slice X Xn Xc] 25)
  have hP := hP.al (.cells #[.int .i64 p1, .slice X Xn Xc] 25)
  have hQ := hQ.al (.cells #[.int .i64 p1, .slice X Xn Xc] 25)
  have hX := hX.al (.cells #[.int .i64 p1, .slice X Xn Xc] 25)
  have hW := bel_al hW (.cells #[.int .i64 p1, .slice X Xn Xc] 25)
  have k1 := Blk.new w5 25 #[.int .i64 p1, .slice X Xn Xc]
  have c_kb := kb.cell
  have f_kb := kb.frozen
  have c_ko := ko.cell
  have f_ko := ko.frozen
  have c_kw := kw.cell
  have f_kw := kw.frozen
  have c_k1 := k1.cell
  have f_k1 := k1.frozen
  refine (implInboxTake_c a B m d l (x + 1) _ hs (by omega) (by omega)).mono ?_
  rw [HT2.out]
  rintro e w6 ⟨Y, Yn, Yc, rfl, hoY, hb6⟩
  have kb := kb.bel hb6
  have ko := ko.bel hb6
  have kw := kw.bel hb6
  have k1 := k1.bel hb6
  have hs := hs.bel hb6
  have hP := hP.bel hb6
  have hQ := hQ.bel hb6
  have hX := hX.bel hb6
  have hW := bel_nx hW hb6
  have hY := SlI.of_own hoY
  clear hoY hb6
  have c_kb := kb.cell
  have f_kb := kb.frozen
  have c_ko := ko.cell
  have f_ko := ko.frozen
  have c_kw := kw.cell
  have f_kw := kw.frozen
  have c_k1 := k1.cell
  have f_k1 := k1.frozen
  go_wp2_with fail
  have kb := kb.al (.cells #[.int .i64 p2, .slice Y Yn Yc] 25)
  have ko := ko.al (.cells #[.int .i64 p2, .slice Y Yn Yc] 25)
  have kw := kw.al (.cells #[.int .i64 p2, .slice Y Yn Yc] 25)
  have k1 := k1.al (.cells #[.int .i64 p2, .slice Y Yn Yc] 25)
  have hs := hs.al (.cells #[.int .i64 p2, .slice Y Yn Yc] 25)
  have hP := hP.al (.cells #[.int .i64 p2, .slice Y Yn Yc] 25)
  have hQ := hQ.al (.cells #[.int .i64 p2, .slice Y Yn Yc] 25)
  have hX := hX.al (.cells #[.int .i64 p2, .slice Y Yn Yc] 25)
  have hY := hY.al (.cells #[.int .i64 p2, .slice Y Yn Yc] 25)
  have hW := bel_al hW (.cells #[.int .i64 p2, .slice Y Yn Yc] 25)
  have k2 := Blk.new w6 25 #[.int .i64 p2, .slice Y Yn Yc]
  have c_kb := kb.cell
  have f_kb := kb.frozen
  have c_ko := ko.cell
  have f_ko := ko.frozen
  have c_kw := kw.cell
  have f_kw := kw.frozen
  have c_k1 := k1.cell
  have f_k1 := k1.frozen
  have c_k2 := k2.cell
  have f_k2 := k2.frozen
  refine (implInboxTake_c p2 Y Yn Yc l2 x _ hY (by omega) (by omega)).mono ?_
  rw [HT3.out]
  rintro e w7 ⟨Z, Zn, Zc, rfl, hoZ, hb7⟩
  have kb := kb.bel hb7
  have ko := ko.bel hb7
  have kw := kw.bel hb7
  have k1 := k1.bel hb7
  have k2 := k2.bel hb7
  have hs := hs.bel hb7
  have hP := hP.bel hb7
  have hQ := hQ.bel hb7
  have hX := hX.bel hb7
  have hY := hY.bel hb7
  have hW := bel_nx hW hb7
  have hZ := SlI.of_own hoZ
  clear hoZ hb7
  have c_kb := kb.cell
  have f_kb := kb.frozen
  have c_ko := ko.cell
  have f_ko := ko.frozen
  have c_kw := kw.cell
  have f_kw := kw.frozen
  have c_k1 := k1.cell
  have f_k1 := k1.frozen
  have c_k2 := k2.cell
  have f_k2 := k2.frozen
  have hW7 := bel_al hW (.cells #[.int .i64 p3, .slice Z Zn Zc] 25)
  cases q1
  · go_wp2_with fail
    go_ret
    exact ⟨rfl, hW7⟩
  cases q2
  · go_wp2_with fail
    go_ret
    exact ⟨rfl, hW7⟩
  cases q3
  · go_wp2_with fail
    go_ret
    exact ⟨rfl, hW7⟩
  obtain ⟨e1, e2⟩ := HE.out rfl rfl rfl
  subst e1 e2
  clear hW7
  go_wp2_with fail
  have kb := kb.al (.cells #[.int .i64 p1, .slice Z Zn Zc] 25)
  have ko := ko.al (.cells #[.int .i64 p1, .slice Z Zn Zc] 25)
  have kw := kw.al (.cells #[.int .i64 p1, .slice Z Zn Zc] 25)
  have k1 := k1.al (.cells #[.int .i64 p1, .slice Z Zn Zc] 25)
  have k2 := k2.al (.cells #[.int .i64 p1, .slice Z Zn Zc] 25)
  have hs := hs.al (.cells #[.int .i64 p1, .slice Z Zn Zc] 25)
  have hP := hP.al (.cells #[.int .i64 p1, .slice Z Zn Zc] 25)
  have hQ := hQ.al (.cells #[.int .i64 p1, .slice Z Zn Zc] 25)
  have hX := hX.al (.cells #[.int .i64 p1, .slice Z Zn Zc] 25)
  have hY := hY.al (.cells #[.int .i64 p1, .slice Z Zn Zc] 25)
  have hZ := hZ.al (.cells #[.int .i64 p1, .slice Z Zn Zc] 25)
  have hW := bel_al hW (.cells #[.int .i64 p1, .slice Z Zn Zc] 25)
  have k3 := Blk.new w7 25 #[.int .i64 p1, .slice Z Zn Zc]
  have c_kb := kb.cell
  have f_kb := kb.frozen
  have c_ko := ko.cell
  have f_ko := ko.frozen
  have c_kw := kw.cell
  have f_kw := kw.frozen
  have c_k1 := k1.cell
  have f_k1 := k1.frozen
  have c_k2 := k2.cell
  have f_k2 := k2.frozen
  have c_k3 := k3.cell
  have f_k3 := k3.frozen
  refine (sameInbox_same p1 X Z Xn Xc Zn Zc l1 _ hX hZ).mono ?_
  rintro e w8 ⟨rfl, hb8⟩
  have kb := kb.bel hb8
  have ko := ko.bel hb8
  have kw := kw.bel hb8
  have k1 := k1.bel hb8
  have k2 := k2.bel hb8
  have k3 := k3.bel hb8
  have hs := hs.bel hb8
  have hP := hP.bel hb8
  have hQ := hQ.bel hb8
  have hX := hX.bel hb8
  have hY := hY.bel hb8
  have hZ := hZ.bel hb8
  have hW := bel_nx hW hb8
  go_wp2_with fail
  go_ret
  exact ⟨rfl, hW⟩

set_option maxRecDepth 100000 in
theorem fnInboxSwap_l (os : Os) (started : os.Started) (H : Type) (enc : TypeId × Value → H) :
    ReturnsInHanded {} Try.checked os 11 .any (Rows.fnInboxSwapSpec.pre6 enc Try.prog Try.f11 Rows.fnInboxSwapRow.domain false) (Rows.fnInboxSwapSpec.post enc Try.prog Try.f11 false true false false) := by
  refine returnsInHanded_of_change (C := Try.checked) own started (by kernel_rfl) Try.func11
    (ChangeSpec.witness6 (enc := enc) (C := Try.checked) false ⟨#[], #[.slice none 0 0], []⟩ 8 (by kernel_rfl) (by kernel_rfl) (by kernel_rfl) (by kernel_rfl)) ?_
  intro W base args ds gs before hval0 hW hcnd _
  have hval : ∀ (j : Nat) t v, Try.f11.params[j]? = some t → args[j]? = some v → Value.okWide Try.prog W .any base t v := hval0
  have hW' := hW
  obtain ⟨p, q, hA0, hV, rfl, hfz, hnd⟩ := hW
  have hA : DataW.TrodAll enc Try.prog W 0 (fun _ => true) true Try.f11.params.toList args.toList ds p := hA0
  rw [Try.params11] at hA hval
  obtain ⟨v0, vs0, d0, ds0, p0, q0, hargs, rfl, rfl, h0, r0⟩ := trodAll_cons hA
  obtain ⟨rfl, rfl, rfl⟩ := trodAll_nil r0
  obtain rfl : args = #[v0] := by cases args; simp_all
  obtain ⟨rfl, rfl⟩ := trodVars_none hV
  have k0 := h0
  have lt0 : ∀ x ∈ p0, x.block < W.heap.size := by obtain ⟨m, hm⟩ := k0; exact DataW.trod_lt m _ _ _ hm
  obtain ⟨A0, n0, c0, rfl⟩ := okWide_slice Try.underlying22 (hval 0 22 v0 rfl rfl)
  obtain ⟨z0, w0⟩ := bytes_row h0 (fun _ => rfl)
  clear hA0 hval0
  refine (fnInboxSwap_w A0 n0 c0 z0 W w0).mono fun e W' ⟨he, bel⟩ => ?_
  subst he
  exact ⟨_, rfl, _, _, _, [], _, [], hW', trodAll_mk1 (shut_bool Try.underlying4 _), (trodAll_cons_mk (Below.trod laidOut (by kernel_rfl) (of_decide_eq_true (by kernel_rfl)) k0 bel lt0) trodAll_mk0), rfl, bel.frame _, fun h => by cases h⟩

theorem fnInboxSwap_holds : Rows.FnInboxSwapSaid :=
  OpenClaim.holds_of_wide 11 Try.f11 rfl rfl rfl rfl rfl rfl rfl ⟨rfl, rfl, rfl, rfl, rfl⟩ rfl rfl rfl rfl rfl (by kernel_rfl) Try.func11 (by kernel_rfl)
    (of_decide_eq_true (by kernel_rfl)) (by unfold Func.isWrapper; first | (rw [if_pos (by decide +kernel)]; kernel_rfl) | (rw [if_neg (by decide +kernel)]; exact ⟨rfl, rfl⟩))
    (fun os started H enc _ => fnInboxSwap_l os started H enc)
#print axioms fnInboxSwap_holds

end Go.Proofs.Ytdcojlbekpcejaa
