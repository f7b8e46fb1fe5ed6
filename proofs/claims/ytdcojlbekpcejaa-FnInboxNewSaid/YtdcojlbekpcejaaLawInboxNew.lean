/- For every code that an inbox and a number are drawn from: a message is new just when it had not come. No conditions. -/
import Derived.Test.YtdcojlbekpcejaaInboxSame
import Derived.Test.YtdcojlbekpcejaaLift
namespace Go.Proofs.Ytdcojlbekpcejaa
open Go.ChangeShapes Go.WideShapes Go.ChangeAt Go.RowKit Go.Joins

set_option maxRecDepth 20000 in
set_option maxHeartbeats 2000000 in
theorem fnInboxNew_w (A : Option Addr) (n c : Nat) (zs : List Int) (w : World) (h : IsRow .u8 w A n c zs) : Calls Try.prog 12 #[.slice A n c] w fun e w' => e = .returned (.bool true) ∧ Below w.heap.size w w' := by
  obtain ⟨l1, l2⟩ := row_len h
  by_cases hn : 1048576 < n
  · go_enter Try.func12, Try.ntmps12
    go_wp2_with fail
    go_ret
    exact ⟨rfl, Below.refl _ _⟩
  have g1 : (n : Int) ≤ 1048576 := by omega
  clear hn
  go_enter Try.func12, Try.ntmps12
  go_wp2_with fail
  refine (drawInboxTake_c A n c zs _ h).mono ?_
  rintro e w1 ⟨a, B, m, d, l, x, rfl, hs, hm, ha1, ha2, hx1, hx2, hb1⟩
  have hW := hb1
  obtain ⟨⟨p, lp, f, ok⟩, hT⟩ : ∃ R, takeF a l x = R := ⟨_, rfl⟩
  have HT := Lib.hid hT
  clear hT
  go_wp2_with fail
  have hs := hs.al (.cells #[.int .i64 a, .slice B m d] 25)
  have hW := bel_al hW (.cells #[.int .i64 a, .slice B m d] 25)
  have kb := Blk.new w1 25 #[.int .i64 a, .slice B m d]
  have c_kb := kb.cell
  have f_kb := kb.frozen
  refine (implInboxTake_c a B m d l x _ hs (by omega) (by omega)).mono ?_
  rw [HT.out]
  rintro e w2 ⟨P, pn, pc, rfl, hop, hb2⟩
  have kb := kb.bel hb2
  have hs := hs.bel hb2
  have hW := bel_nx hW hb2
  have hP := SlI.of_own hop
  clear hop hb2
  have c_kb := kb.cell
  have f_kb := kb.frozen
  go_wp2_with fail
  have kb := kb.al (.cells #[.int .i64 p, .slice P pn pc] 25)
  have hs := hs.al (.cells #[.int .i64 p, .slice P pn pc] 25)
  have hP := hP.al (.cells #[.int .i64 p, .slice P pn pc] 25)
  have hW := bel_al hW (.cells #[.int .i64 p, .slice P pn pc] 25)
  have ko := Blk.new w2 25 #[.int .i64 p, .slice P pn pc]
  refine (specInboxTake_c a B m d l x _ hs (by omega) (by omega)).mono ?_
  rw [HT.out]
  rintro e w3 ⟨Q, qn, qc, rfl, hQ, hqb, hb3⟩
  have kb := kb.bel hb3
  have ko := ko.bel hb3
  have hs := hs.bel hb3
  have hP := hP.bel hb3
  have hW := bel_nx hW hb3
  clear hqb hb3
  have c_kb := kb.cell
  have f_kb := kb.frozen
  have c_ko := ko.cell
  have f_ko := ko.frozen
  go_wp2_with fail
  have kb := kb.al (.cells #[.int .i64 p, .slice Q qn qc] 25)
  have ko := ko.al (.cells #[.int .i64 p, .slice Q qn qc] 25)
  have hs := hs.al (.cells #[.int .i64 p, .slice Q qn qc] 25)
  have hP := hP.al (.cells #[.int .i64 p, .slice Q qn qc] 25)
  have hQ := hQ.al (.cells #[.int .i64 p, .slice Q qn qc] 25)
  have hW := bel_al hW (.cells #[.int .i64 p, .slice Q qn qc] 25)
  have kw := Blk.new w3 25 #[.int .i64 p, .slice Q qn qc]
  refine (sameInbox_same p P Q pn pc qn qc lp _ hP hQ).mono ?_
  rintro e w4 ⟨rfl, hb4⟩
  have kb := kb.bel hb4
  have ko := ko.bel hb4
  have kw := kw.bel hb4
  have hs := hs.bel hb4
  have hP := hP.bel hb4
  have hQ := hQ.bel hb4
  have hW := bel_nx hW hb4
  clear hb4
  have c_kb := kb.cell
  have f_kb := kb.frozen
  have c_ko := ko.cell
  have f_ko := ko.frozen
  have c_kw := kw.cell
  have f_kw := kw.frozen
  cases ok
  · go_wp2_with fail
    refine (sameInbox_same p P Q pn pc qn qc lp _ hP hQ).mono ?_
    rintro e w5 ⟨rfl, hb5⟩
    have kb := kb.bel hb5
    have ko := ko.bel hb5
    have kw := kw.bel hb5
    have hs := hs.bel hb5
    have hP := hP.bel hb5
    have hQ := hQ.bel hb5
    have hW := bel_nx hW hb5
    go_wp2_with fail
    go_ret
    exact ⟨rfl, hW⟩
  obtain ⟨HV, HX1, HX9, HVp, Hf, Hm⟩ := take_ok HT.out
  obtain ⟨hp0, hp9, _⟩ := inb_all HVp
  have HH : Hid (inHasB a l x = !f) := Lib.hid (by rw [inHasB_yes HV ⟨HX1, HX9⟩, Hf]; simp)
  clear HV HVp Hf Hm
  go_wp2_with fail
  refine (implInboxHas_c a B m d l x _ hs (by omega) (by omega)).mono ?_
  rw [HH.out]
  rintro e w5 ⟨rfl, hb5⟩
  have kb := kb.bel hb5
  have ko := ko.bel hb5
  have kw := kw.bel hb5
  have hs := hs.bel hb5
  have hP := hP.bel hb5
  have hQ := hQ.bel hb5
  have hW := bel_nx hW hb5
  go_wp2_with fail
  go_ret
  exact ⟨ret_bool (by simp), hW⟩

set_option maxRecDepth 100000 in
theorem fnInboxNew_l (os : Os) (started : os.Started) (H : Type) (enc : TypeId × Value → H) :
    ReturnsInHanded {} Try.checked os 12 .any (Rows.fnInboxNewSpec.pre6 enc Try.prog Try.f12 Rows.fnInboxNewRow.domain false) (Rows.fnInboxNewSpec.post enc Try.prog Try.f12 false true false false) := by
  refine returnsInHanded_of_change (C := Try.checked) own started (by kernel_rfl) Try.func12
    (ChangeSpec.witness6 (enc := enc) (C := Try.checked) false ⟨#[], #[.slice none 0 0], []⟩ 8 (by kernel_rfl) (by kernel_rfl) (by kernel_rfl) (by kernel_rfl)) ?_
  intro W base args ds gs before hval0 hW hcnd _
  have hval : ∀ (j : Nat) t v, Try.f12.params[j]? = some t → args[j]? = some v → Value.okWide Try.prog W .any base t v := hval0
  have hW' := hW
  obtain ⟨p, q, hA0, hV, rfl, hfz, hnd⟩ := hW
  have hA : DataW.TrodAll enc Try.prog W 0 (fun _ => true) true Try.f12.params.toList args.toList ds p := hA0
  rw [Try.params12] at hA hval
  obtain ⟨v0, vs0, d0, ds0, p0, q0, hargs, rfl, rfl, h0, r0⟩ := trodAll_cons hA
  obtain ⟨rfl, rfl, rfl⟩ := trodAll_nil r0
  obtain rfl : args = #[v0] := by cases args; simp_all
  obtain ⟨rfl, rfl⟩ := trodVars_none hV
  have k0 := h0
  have lt0 : ∀ x ∈ p0, x.block < W.heap.size := by obtain ⟨m, hm⟩ := k0; exact DataW.trod_lt m _ _ _ hm
  obtain ⟨A0, n0, c0, rfl⟩ := okWide_slice Try.underlying22 (hval 0 22 v0 rfl rfl)
  obtain ⟨z0, w0⟩ := bytes_row h0 (fun _ => rfl)
  clear hA0 hval0
  refine (fnInboxNew_w A0 n0 c0 z0 W w0).mono fun e W' ⟨he, bel⟩ => ?_
  subst he
  exact ⟨_, rfl, _, _, _, [], _, [], hW', trodAll_mk1 (shut_bool Try.underlying4 _), (trodAll_cons_mk (Below.trod laidOut (by kernel_rfl) (of_decide_eq_true (by kernel_rfl)) k0 bel lt0) trodAll_mk0), rfl, bel.frame _, fun h => by cases h⟩

theorem fnInboxNew_holds : Rows.FnInboxNewSaid :=
  OpenClaim.holds_of_wide 12 Try.f12 rfl rfl rfl rfl rfl rfl rfl ⟨rfl, rfl, rfl, rfl, rfl⟩ rfl rfl rfl rfl rfl (by kernel_rfl) Try.func12 (by kernel_rfl)
    (of_decide_eq_true (by kernel_rfl)) (by unfold Func.isWrapper; first | (rw [if_pos (by decide +kernel)]; kernel_rfl) | (rw [if_neg (by decide +kernel)]; exact ⟨rfl, rfl⟩))
    (fun os started H enc _ => fnInboxNew_l os started H enc)
#print axioms fnInboxNew_holds

end Go.Proofs.Ytdcojlbekpcejaa
