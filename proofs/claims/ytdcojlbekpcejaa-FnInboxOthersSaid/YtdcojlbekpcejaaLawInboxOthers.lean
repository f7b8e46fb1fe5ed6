/- For every code that an inbox and a number are drawn from: whether another message has come is as before. No conditions. -/
import Derived.Test.YtdcojlbekpcejaaInboxSame
import Derived.Test.YtdcojlbekpcejaaLift
namespace Go.Proofs.Ytdcojlbekpcejaa
open Go.ChangeShapes Go.WideShapes Go.ChangeAt Go.RowKit Go.Joins

set_option maxRecDepth 20000 in
set_option maxHeartbeats 2000000 in
theorem fnInboxOthers_w (A A' : Option Addr) (n c n' c' : Nat) (zs zs' : List Int) (w : World) (h : IsRow .u8 w A n c zs) (h' : IsRow .u8 w A' n' c' zs') : Calls Try.prog 13 #[.slice A n c, .slice A' n' c'] w fun e w' => e = .returned (.bool true) ∧ Below w.heap.size w w' := by
  obtain ⟨l1, l2⟩ := row_len h
  obtain ⟨l3, l4⟩ := row_len h'
  by_cases hn : 1048576 < n ∨ 1048576 < n'
  · by_cases hn1 : 1048576 < n
    all_goals
      go_enter Try.func13, Try.ntmps13
      go_wp2_with fail
      go_ret
      exact ⟨rfl, Below.refl _ _⟩
  have g1 : (n : Int) ≤ 1048576 := by omega
  have g2 : (n' : Int) ≤ 1048576 := by omega
  clear hn
  go_enter Try.func13, Try.ntmps13
  go_wp2_with fail
  refine (drawInboxTake_c A n c zs _ h).mono ?_
  rintro e w1 ⟨a, B, m, d, l, x, rfl, hs, hm, ha1, ha2, hx1, hx2, hb1⟩
  have hW := hb1
  obtain ⟨⟨p, lp, f, ok⟩, hT⟩ : ∃ R, takeF a l x = R := ⟨_, rfl⟩
  have HT := Lib.hid hT
  clear hT
  go_wp2_with fail
  have hs := hs.al (.cells #[.int .i64 a, .slice B m d] 25)
  have hW := bel_al hW (.cells #[.int .i64 a, .slice B m d] 25)
  have kb := Blk.new w1 25 #[.int .i64 a, .slice B m d]
  have c_kb := kb.cell
  have f_kb := kb.frozen
  refine (implInboxTake_c a B m d l x _ hs (by omega) (by omega)).mono ?_
  rw [HT.out]
  rintro e w2 ⟨P, pn, pc, rfl, hop, hb2⟩
  have kb := kb.bel hb2
  have hs := hs.bel hb2
  have hW := bel_nx hW hb2
  have hP := SlI.of_own hop
  clear hop hb2
  have c_kb := kb.cell
  have f_kb := kb.frozen
  go_wp2_with fail
  have kb := kb.al (.cells #[.int .i64 p, .slice P pn pc] 25)
  have hs := hs.al (.cells #[.int .i64 p, .slice P pn pc] 25)
  have hP := hP.al (.cells #[.int .i64 p, .slice P pn pc] 25)
  have hW := bel_al hW (.cells #[.int .i64 p, .slice P pn pc] 25)
  have ko := Blk.new w2 25 #[.int .i64 p, .slice P pn pc]
  refine (specInboxTake_c a B m d l x _ hs (by omega) (by omega)).mono ?_
  rw [HT.out]
  rintro e w3 ⟨Q, qn, qc, rfl, hQ, hqb, hb3⟩
  have kb := kb.bel hb3
  have ko := ko.bel hb3
  have hs := hs.bel hb3
  have hP := hP.bel hb3
  have hW := bel_nx hW hb3
  clear hqb hb3
  have c_kb := kb.cell
  have f_kb := kb.frozen
  have c_ko := ko.cell
  have f_ko := ko.frozen
  go_wp2_with fail
  have kb := kb.al (.cells #[.int .i64 p, .slice Q qn qc] 25)
  have ko := ko.al (.cells #[.int .i64 p, .slice Q qn qc] 25)
  have hs := hs.al (.cells #[.int .i64 p, .slice Q qn qc] 25)
  have hP := hP.al (.cells #[.int .i64 p, .slice Q qn qc] 25)
  have hQ := hQ.al (.cells #[.int .i64 p, .slice Q qn qc] 25)
  have hW := bel_al hW (.cells #[.int .i64 p, .slice Q qn qc] 25)
  have kw := Blk.new w3 25 #[.int .i64 p, .slice Q qn qc]
  refine (sameInbox_same p P Q pn pc qn qc lp _ hP hQ).mono ?_
  rintro e w4 ⟨rfl, hb4⟩
  have kb := kb.bel hb4
  have ko := ko.bel hb4
  have kw := kw.bel hb4
  have hs := hs.bel hb4
  have hP := hP.bel hb4
  have hQ := hQ.bel hb4
  have hW := bel_nx hW hb4
  clear hb4
  have c_kb := kb.cell
  have f_kb := kb.frozen
  have c_ko := ko.cell
  have f_ko := ko.frozen
  have c_kw := kw.cell
  have f_kw := kw.frozen
  cases ok
  · go_wp2_with fail
    refine (sameInbox_same p P Q pn pc qn qc lp _ hP hQ).mono ?_
    rintro e w5 ⟨rfl, hb5⟩
    have kb := kb.bel hb5
    have ko := ko.bel hb5
    have kw := kw.bel hb5
    have hs := hs.bel hb5
    have hP := hP.bel hb5
    have hQ := hQ.bel hb5
    have hW := bel_nx hW hb5
    go_wp2_with fail
    go_ret
    exact ⟨rfl, hW⟩
  obtain ⟨HV, HX1, HX9, HVp, Hf, Hm⟩ := take_ok HT.out
  obtain ⟨hp0, hp9, _⟩ := inb_all HVp
  obtain ⟨a0, a9, _⟩ := inb_all HV
  obtain ⟨y, hy⟩ : ∃ y : Nat, y = n' % 20 := ⟨_, rfl⟩
  have hy20 : y < 20 := by omega
  have et : (n' : Int).tmod 20 = (y : Int) := by rw [hy]; rfl
  have et2 : IntKind.i64.wrap (1 + (y : Int)) = 1 + (y : Int) := by rw [IntKind.wrap_i64]; omega
  have ey : Hid (1 + (y : Int) ≠ x → inHasB p lp (1 + (y : Int)) = inHasB a l (1 + (y : Int))) := Lib.hid (fun hne => by rw [inHasB_yes HVp ⟨by omega, by omega⟩, inHasB_yes HV ⟨by omega, by omega⟩, Hm, decide_eq_false hne, Bool.or_false])
  clear HV HVp Hf Hm hy
  by_cases hxy : 1 + (y : Int) = x
  · have ex : (1 + (y : Int) == x) = true := by simpa using hxy
    go_wp2_with fail
    try go_quiet (fail)
    try go_wp2_with fail
    go_ret
    exact ⟨rfl, by first | exact hW | exact bel_drN hW _ | exact bel_dr hW⟩
  · have ex : (1 + (y : Int) == x) = false := by simpa using hxy
    have EY := Lib.hid (ey.out hxy)
    clear hxy ey
    go_wp2_with fail
    go_region_held3 (fun w' => w'.cell? ⟨w1.heap.size, 0, none⟩ = some (.int .i64 a) ∧ w'.cell? ⟨w1.heap.size, 1, none⟩ = some (.slice B m d) ∧ w'.cell? ⟨w2.heap.size, 0, none⟩ = some (.int .i64 p) ∧ w'.cell? ⟨w2.heap.size, 1, none⟩ = some (.slice P pn pc) ∧ SlI w' B m d l ∧ SlI w' P pn pc lp ∧ Below w.heap.size w w') (first | (refine ⟨?_, ?_, ?_, ?_, ?_, ?_, ?_⟩ <;> first | exact c_kb 0 | exact c_kb 1 | exact c_ko 0 | exact c_ko 1 | exact hs.dr | exact hP.dr | exact hs | exact hP | exact bel_dr hW | exact hW) | (go_split_ands; exact ⟨cell_on hb7 (by assumption), cell_on hb7 (by assumption), cell_on hb7 (by assumption), cell_on hb7 (by assumption), Sl.bel (by assumption) hb7, Sl.bel (by assumption) hb7, bel_nx (by assumption) hb7⟩) | (go_split_ands; exact ⟨by assumption, by assumption, by assumption, by assumption, Sl.dr (by assumption), Sl.dr (by assumption), bel_dr (by assumption)⟩) | go_keep) ((first | (go_at_call 23; refine (implInboxHas_c _ _ _ _ _ (1 + (y : Int)) _ (by go_split_ands; assumption) (by omega) (by omega)).mono ?_; rintro e w7 ⟨rfl, hb7⟩)))
    all_goals
      go_split_ands
      go_wp2_with fail
      go_ret
      exact ⟨ret_bool (by simp [EY.out]), by assumption⟩

set_option maxRecDepth 100000 in
theorem fnInboxOthers_l (os : Os) (started : os.Started) (H : Type) (enc : TypeId × Value → H) :
    ReturnsInHanded {} Try.checked os 13 .any (Rows.fnInboxOthersSpec.pre6 enc Try.prog Try.f13 Rows.fnInboxOthersRow.domain false) (Rows.fnInboxOthersSpec.post enc Try.prog Try.f13 false true false false) := by
  refine returnsInHanded_of_change (C := Try.checked) own started (by kernel_rfl) Try.func13
    (ChangeSpec.witness6 (enc := enc) (C := Try.checked) false ⟨#[], #[.slice none 0 0, .slice none 0 0], []⟩ 8 (by kernel_rfl) (by kernel_rfl) (by kernel_rfl) (by kernel_rfl)) ?_
  intro W base args ds gs before hval0 hW hcnd _
  have hval : ∀ (j : Nat) t v, Try.f13.params[j]? = some t → args[j]? = some v → Value.okWide Try.prog W .any base t v := hval0
  have hW' := hW
  obtain ⟨p, q, hA0, hV, rfl, hfz, hnd⟩ := hW
  have hA : DataW.TrodAll enc Try.prog W 0 (fun _ => true) true Try.f13.params.toList args.toList ds p := hA0
  rw [Try.params13] at hA hval
  obtain ⟨v0, vs0, d0, ds0, p0, q0, hargs, rfl, rfl, h0, r0⟩ := trodAll_cons hA
  obtain ⟨v1, vs1, d1, ds1, p1, q1, rfl, rfl, rfl, h1, r1⟩ := trodAll_cons r0
  obtain ⟨rfl, rfl, rfl⟩ := trodAll_nil r1
  obtain rfl : args = #[v0, v1] := by cases args; simp_all
  obtain ⟨rfl, rfl⟩ := trodVars_none hV
  have k0 := h0
  have lt0 : ∀ x ∈ p0, x.block < W.heap.size := by obtain ⟨m, hm⟩ := k0; exact DataW.trod_lt m _ _ _ hm
  obtain ⟨A0, n0, c0, rfl⟩ := okWide_slice Try.underlying22 (hval 0 22 v0 rfl rfl)
  obtain ⟨z0, w0⟩ := bytes_row h0 (fun _ => rfl)
  have k1 := h1
  have lt1 : ∀ x ∈ p1, x.block < W.heap.size := by obtain ⟨m, hm⟩ := k1; exact DataW.trod_lt m _ _ _ hm
  obtain ⟨A1, n1, c1, rfl⟩ := okWide_slice Try.underlying22 (hval 1 22 v1 rfl rfl)
  obtain ⟨z1, w1⟩ := bytes_row h1 (fun _ => rfl)
  clear hA0 hval0
  refine (fnInboxOthers_w A0 A1 n0 c0 n1 c1 z0 z1 W w0 w1).mono fun e W' ⟨he, bel⟩ => ?_
  subst he
  exact ⟨_, rfl, _, _, _, [], _, [], hW', trodAll_mk1 (shut_bool Try.underlying4 _), (trodAll_cons_mk (Below.trod laidOut (by kernel_rfl) (of_decide_eq_true (by kernel_rfl)) k0 bel lt0) (trodAll_cons_mk (Below.trod laidOut (by kernel_rfl) (of_decide_eq_true (by kernel_rfl)) k1 bel lt1) trodAll_mk0)), rfl, bel.frame _, fun h => by cases h⟩

theorem fnInboxOthers_holds : Rows.FnInboxOthersSaid :=
  OpenClaim.holds_of_wide 13 Try.f13 rfl rfl rfl rfl rfl rfl rfl ⟨rfl, rfl, rfl, rfl, rfl⟩ rfl rfl rfl rfl rfl (by kernel_rfl) Try.func13 (by kernel_rfl)
    (of_decide_eq_true (by kernel_rfl)) (by unfold Func.isWrapper; first | (rw [if_pos (by decide +kernel)]; kernel_rfl) | (rw [if_neg (by decide +kernel)]; exact ⟨rfl, rfl⟩))
    (fun os started H enc _ => fnInboxOthers_l os started H enc)
#print axioms fnInboxOthers_holds

end Go.Proofs.Ytdcojlbekpcejaa
